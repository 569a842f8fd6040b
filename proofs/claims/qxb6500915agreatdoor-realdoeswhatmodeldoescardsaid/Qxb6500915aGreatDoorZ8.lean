import Derived.Test.Qxb6500915aGreatDoorZ7
import Derived.Test.Qxb6500915aGreatDoorZ4
import Derived.Test.Qxb6500915aGreatDoorByt
namespace Go.Proofs.Qxb6500915aGreatDoor
open Go.Eng
set_option linter.unusedVariables false
set_option linter.unusedSimpArgs false
theorem cal31 : callable Tryz.prog 31 = true := by kernel_rfl
theorem cal32 : callable Tryz.prog 32 = true := by kernel_rfl
theorem cal33 : callable Tryz.prog 33 = true := by kernel_rfl
theorem cal34 : callable Tryz.prog 34 = true := by kernel_rfl
theorem zero87 : zeroOk Tryz.prog 87 (.map none) := by unfold zeroOk; kernel_rfl
theorem cal36 : callable Tryz.prog 36 = true := by kernel_rfl
theorem cal37 : callable Tryz.prog 37 = true := by kernel_rfl
theorem cal38 : callable Tryz.prog 38 = true := by kernel_rfl
theorem conc24 : concT Tryz.prog 24 = true := by kernel_rfl
theorem cal41 : callable Tryz.prog 41 = true := by kernel_rfl
/-! ## the model's Normalise, plainly -/
section zh
theorem ub_lt {S : List Int} : ∀ {ts : List Tm} {i : Nat}, ub S ts = some i → i < ts.length
  | [], i, h => by cases h
  | t :: ts, i, h => by
    unfold ub at h
    split at h
    · injection h with h; subst h; simp
    · cases hq : ub S ts with
      | none => rw [hq] at h; cases h
      | some j =>
        rw [hq] at h
        injection h with h
        have h9 : j + 1 = i := h
        have := ub_lt hq
        simp only [List.length_cons]; omega
theorem sfB_bd9 {S : List Int} : ∀ {ls : List Lt} {i : Nat} {q : Int × Int}, (∀ l, l ∈ ls → l.a.length ≤ 65536) → sfB S i ls = some q → 0 ≤ q.1 ∧ q.1 < i + ls.length ∧ 0 ≤ q.2 ∧ q.2 ≤ 65536
  | [], i, q, _, h => by cases h
  | l :: ls, i, q, hl, h => by
    have ih : sfB S (i + 1) ls = some q → 0 ≤ q.1 ∧ q.1 < i + (l :: ls).length ∧ 0 ≤ q.2 ∧ q.2 ≤ 65536 := fun h2 => by
      have := sfB_bd9 (fun x hx => hl x (List.mem_cons_of_mem _ hx)) h2
      simp only [List.length_cons]; omega
    unfold sfB at h
    split at h
    · exact ih h
    · cases hu : ub S l.a with
      | none => rw [hu] at h; exact ih h
      | some j =>
        rw [hu] at h
        injection h with h
        have := ub_lt hu
        have := hl l (List.mem_cons_self ..)
        rw [← h]
        simp only [List.length_cons]; omega
theorem safeP_bd9 {r : Ru} {q : Int × Int} (ha : r.a.length ≤ 65536) (hb : r.b.length ≤ 65536) (hl : ∀ l, l ∈ r.b → l.a.length ≤ 65536) (h : safeP r = some q) : -1 ≤ q.1 ∧ q.1 < 65536 ∧ 0 ≤ q.2 ∧ q.2 ≤ 65536 := by
  unfold safeP at h
  cases hu : ub (posS r.b) r.a with
  | some i =>
    rw [hu] at h
    injection h with h
    have := ub_lt hu
    rw [← h]; simp only; omega
  | none =>
    rw [hu] at h
    have := sfB_bd9 hl h
    omega
theorem usP_bd9 : ∀ {rs : List Ru} {k i : Nat} {q1 q2 : Int}, (∀ r, r ∈ rs → r.a.length ≤ 65536 ∧ r.b.length ≤ 65536 ∧ ∀ l, l ∈ r.b → l.a.length ≤ 65536) → usP k rs = some (i, q1, q2) → (i < k + rs.length) ∧ -1 ≤ q1 ∧ q1 < 65536 ∧ 0 ≤ q2 ∧ q2 ≤ 65536
  | [], k, i, q1, q2, _, h => by cases h
  | r :: rs, k, i, q1, q2, hb, h => by
    unfold usP at h
    cases hs : safeP r with
    | none =>
      rw [hs] at h
      have := usP_bd9 (fun x hx => hb x (List.mem_cons_of_mem _ hx)) h
      simp only [List.length_cons]; omega
    | some q =>
      rw [hs] at h
      injection h with h
      injection h with h1 h2
      injection h2 with h2 h3
      obtain ⟨a1, a2, a3⟩ := hb r (List.mem_cons_self ..)
      have := safeP_bd9 a1 a2 a3 hs
      simp only [List.length_cons]; omega
theorem ar_of {rus : List Ru} {ps : List Pd} (hk : ckP [] 0 rus = (none, ps)) : ∃ ar : ByteArray → Nat, ∀ n, Occ rus n → OcA rus n (ar n) ∧ ∀ m, OcA rus n m → m = ar n := by
  have h0 : ∀ n, ∃ a, Occ rus n → OcA rus n a := fun n => by
    by_cases h : Occ rus n
    · obtain ⟨r, hr, e | ⟨l, hl, hk9, e⟩⟩ := h
      · exact ⟨_, fun _ => ⟨r, hr, .inl ⟨e, rfl⟩⟩⟩
      · exact ⟨_, fun _ => ⟨r, hr, .inr ⟨l, hl, hk9, e, rfl⟩⟩⟩
    · exact ⟨0, fun h2 => absurd h2 h⟩
  refine ⟨fun n => (h0 n).choose, fun n hn => ⟨(h0 n).choose_spec hn, fun m hm => ?_⟩⟩
  have h1 := ((ckP_has rus [] ps 0 hk).2 n m hm).ar
  have h2 := ((ckP_has rus [] ps 0 hk).2 n _ ((h0 n).choose_spec hn)).ar
  rw [← h1, h2]
/-- the ways the model refuses -/
def NoFm (rus : List Ru) (f : Ft) : Prop :=
  (∃ ps, ckP [] 0 rus = (some f, ps)) ∨ ∃ ps, ckP [] 0 rus = (none, ps) ∧
    ((∃ i q1 q2, usP 0 rus = some (i, q1, q2) ∧ f = ⟨4, i, q1, q2⟩) ∨ (usP 0 rus = none ∧ ∃ bad i j, BadN rus bad ∧ negP bad 0 rus = some (i, j) ∧ f = ⟨5, i, j, -1⟩))
def pdM (ar : ByteArray → Nat) (m : List (ByteArray × Value)) (n : ByteArray) : Pd := ⟨n, ar n, sOf m n⟩
/-- what the model finds -/
structure NzM (rus : List Ru) (L : ByteArray → Nat) (ns : List ByteArray) (m : List (ByteArray × Value)) (ar : ByteArray → Nat) (q : List Ru) : Prop where
  ck : ∃ ps bad, ckP [] 0 rus = (none, ps) ∧ BadN rus bad ∧ negP bad 0 rus = none
  us : usP 0 rus = none
  nm : NmI rus ns
  iv : IntV m
  le : ∀ n, sOf m n ≤ L n
  so : NSol rus (sOf m)
  ar : ∀ n, Occ rus n → OcA rus n (ar n) ∧ ∀ k, OcA rus n k → k = ar n
  nd : q.Nodup
  qm : ∀ x, x ∈ q ↔ ∃ r, r ∈ rus ∧ canR r = some x
  qs : q.Pairwise fun x y => ¬ cmpQ (sOf m) y x < 0
structure MZ where
  i : Nat
  p : Option Addr
  c : Nat
  E : List (Nat × Obj)
structure MRI (rus : List Ru) (z : PZ) : Prop where
  i : z.i ≤ rus.length
  n : z.out.length ≤ z.i
  ok : ∀ q, q ∈ z.out → q.ok ∧ q.ls.length ≤ 64
  nd : (z.out.map RV.ru).Nodup
  qm : ∀ x, x ∈ z.out.map RV.ru ↔ ∃ r, r ∈ rus.take z.i ∧ canR r = some x
theorem MRI.old {rus : List Ru} {z : PZ} (h : MRI rus z) {r q : Ru} (hr : rus[z.i]? = some r) (hc : canR r = some q) (hq : q ∈ z.out.map RV.ru) : MRI rus ⟨z.i + 1, z.out, z.p, z.c, z.E⟩ := by
  have hi := (List.getElem?_eq_some_iff.1 hr).1
  have hn := h.n
  refine ⟨by simp only; omega, by simp only; omega, h.ok, h.nd, fun x => ?_⟩
  simp only
  rw [h.qm x, List.take_add_one, hr]
  constructor
  · rintro ⟨a, h1, h2⟩
    exact ⟨a, List.mem_append_left _ h1, h2⟩
  · rintro ⟨a, h1, h2⟩
    rcases List.mem_append.1 h1 with h3 | h3
    · exact ⟨a, h3, h2⟩
    · have h3 : a = r := by simpa using h3
      subst h3
      rw [hc] at h2; injection h2 with h2; subst h2
      exact (h.qm q).1 hq
theorem MRI.new {rus : List Ru} {z : PZ} (h : MRI rus z) {r : Ru} {q : RV} (hr : rus[z.i]? = some r) (hc : canR r = some q.ru) (hqo : q.ok) (hq4 : q.ls.length ≤ 64) (hq : q.ru ∉ z.out.map RV.ru) (p' : Option Addr) (c' : Nat) (E' : List (Nat × Obj)) : MRI rus ⟨z.i + 1, z.out ++ [q], p', c', E'⟩ := by
  have hi := (List.getElem?_eq_some_iff.1 hr).1
  have hn := h.n
  refine ⟨by simp only; omega, by simp only [List.length_append, List.length_singleton]; omega, fun x hx => ?_, ?_, fun x => ?_⟩
  · rcases List.mem_append.1 hx with h9 | h9
    · exact h.ok x h9
    · rw [List.mem_singleton.1 h9]; exact ⟨hqo, hq4⟩
  · simp only [List.map_append, List.map_cons, List.map_nil]
    rw [List.nodup_append]
    refine ⟨h.nd, by simp, fun a ha b hb => ?_⟩
    rw [List.mem_singleton.1 hb]
    intro e; subst e; exact hq ha
  · simp only [List.map_append, List.map_cons, List.map_nil]
    rw [List.mem_append, h.qm x, List.take_add_one, hr]
    constructor
    · rintro (⟨a, h1, h2⟩ | h1)
      · exact ⟨a, List.mem_append_left _ h1, h2⟩
      · rw [List.mem_singleton.1 h1]
        exact ⟨r, List.mem_append_right _ (by simp), hc⟩
    · rintro ⟨a, h1, h2⟩
      rcases List.mem_append.1 h1 with h3 | h3
      · exact .inl ⟨a, h3, h2⟩
      · have h3 : a = r := by simpa using h3
        subst h3
        rw [hc] at h2; injection h2 with h2
        exact .inr (by rw [h2]; simp)
theorem pdM_snoc {ar : ByteArray → Nat} {m : List (ByteArray × Value)} {ns : List ByteArray} {i : Nat} {n : ByteArray} (h : ns[i]? = some n) : (ns.take (i + 1)).map (pdM ar m) = (ns.take i).map (pdM ar m) ++ [pdM ar m n] := by
  rw [List.take_add_one, h, List.map_append]; rfl
theorem stMx_pd {ar : ByteArray → Nat} {m : List (ByteArray × Value)} {ns : List ByteArray} {i : Nat} {n : ByteArray} (h : ns[i]? = some n) : stMx ((ns.take (i + 1)).map (pdM ar m)) = max (stMx ((ns.take i).map (pdM ar m))) (sOf m n + 1) := by
  rw [pdM_snoc h]
  unfold stMx
  rw [List.foldl_append]; rfl
theorem stMx_b : ∀ (l : List Pd) (b k : Nat), (∀ x, x ∈ l → x.s ≤ b) → k ≤ b + 1 → l.foldl (fun n p => max n (p.s + 1)) k ≤ b + 1
  | [], b, k, _, h => h
  | x :: l, b, k, hl, h => by
    rw [List.foldl_cons]
    refine stMx_b l b _ (fun y hy => hl y (List.mem_cons_of_mem _ hy)) ?_
    have := hl x (List.mem_cons_self ..)
    omega
theorem SoZ.ru {m : List (ByteArray × Value)} {l : List RV} (h : SoZ m l) : (l.map RV.ru).Pairwise fun x y => ¬ cmpQ (sOf m) y x < 0 := by
  rw [List.pairwise_map]; exact h
theorem MRI.fin {rus : List Ru} {z : PZ} (h : MRI rus z) (hz : z.i = rus.length) {l : List RV} (hp : l.Perm z.out) : (l.map RV.ru).Nodup ∧ ∀ x, x ∈ l.map RV.ru ↔ ∃ r, r ∈ rus ∧ canR r = some x := by
  have h1 := hp.map RV.ru
  refine ⟨h1.nodup_iff.2 h.nd, fun x => ?_⟩
  rw [h1.mem_iff, h.qm x, hz, List.take_length]
theorem cmpQ_0e {lv : ByteArray → Nat} {x y : Ru} (h : cmpQ lv x y = 0) : x = y := cmpR_eq (thn_z h).2
/-! ## the two agree -/
theorem nof_m {rus : List Ru} {f f2 : Ft} (h5 : ∀ r, r ∈ rus → r.b.length ≤ 5) (h : NoF rus f) (h2 : NoFm rus f2) : f = f2 := by
  rcases h with ⟨ps, h⟩ | ⟨ps, h, h1⟩
  · rcases h2 with ⟨ps2, h2⟩ | ⟨ps2, h2, _⟩
    · rw [h] at h2; injection h2 with h2 _; injection h2
    · rw [h] at h2; cases h2
  · rcases h2 with ⟨ps2, h2⟩ | ⟨ps2, h2, h3⟩
    · rw [h] at h2; cases h2
    · rcases h1 with ⟨i, q1, q2, e1, rfl⟩ | ⟨e1, bad, hB, e2⟩
      · rcases h3 with ⟨i', q1', q2', e3, rfl⟩ | ⟨e3, _⟩
        · rw [e1] at e3; injection e3 with e3; injection e3 with e3 e4; injection e4 with e4 e5; subst e3; subst e4; subst e5; rfl
        · rw [e1] at e3; cases e3
      · rcases h3 with ⟨i', q1', q2', e3, rfl⟩ | ⟨e3, bad2, i, j, hB2, e4, rfl⟩
        · rw [e1] at e3; cases e3
        · have e5 := bad_eq (tabl_of h).t hB hB2
          rcases e2 with ⟨i', j', e6, rfl⟩ | ⟨e6, _⟩
          · rw [e5, e4] at e6; injection e6 with e6; injection e6 with e6 e7; subst e6; subst e7; rfl
          · rw [e5, e4] at e6; cases e6
theorem noC_small {rus : List Ru} (h5 : ∀ r, r ∈ rus → r.b.length ≤ 5) : ∀ {k : Nat}, noC k rus = none := by
  induction rus with
  | nil => intro k; rfl
  | cons r rs ih =>
    intro k
    obtain ⟨q, hq⟩ := can_small (h5 r (List.mem_cons_self ..))
    show (match canR r with | none => some k | some _ => noC (k + 1) rs) = none
    rw [hq]
    exact ih fun x hx => h5 x (List.mem_cons_of_mem _ hx)
theorem nof_nom {rus : List Ru} {f : Ft} {L : ByteArray → Nat} {ns : List ByteArray} {m : List (ByteArray × Value)} {ar : ByteArray → Nat} {q : List Ru} (h5 : ∀ r, r ∈ rus → r.b.length ≤ 5) (h : NoF rus f) (h2 : NzM rus L ns m ar q) : False := by
  obtain ⟨ps2, bad2, c1, c2, c3⟩ := h2.ck
  rcases h with ⟨ps, h⟩ | ⟨ps, h, h1⟩
  · rw [h] at c1; cases c1
  · rcases h1 with ⟨i, q1, q2, e1, rfl⟩ | ⟨e1, bad, hB, e2⟩
    · rw [h2.us] at e1; cases e1
    · have e5 := bad_eq (tabl_of h).t hB c2
      rcases e2 with ⟨i', j', e6, rfl⟩ | ⟨e6, i, e7, _⟩
      · rw [e5, c3] at e6; cases e6
      · rw [noC_small h5] at e7; cases e7
theorem noo_m {rus : List Ru} {ps' l : List Pd} {q0 qs : List RV} {f : Ft} (h : NoO rus ps' l q0 qs) (h2 : NoFm rus f) : False := by
  obtain ⟨ps, bad, a1, a2, a3, a4⟩ := h.ck
  rcases h2 with ⟨ps2, h2⟩ | ⟨ps2, h2, h3⟩
  · rw [a1] at h2; cases h2
  · rcases h3 with ⟨i', q1', q2', e3, rfl⟩ | ⟨e3, bad2, i, j, hB2, e4, rfl⟩
    · rw [h.us] at e3; cases e3
    · rw [← bad_eq (tabl_of a1).t a2 hB2, a3] at e4; cases e4
/-- a bounded solution, if there is one -/
theorem noo_sol {rus : List Ru} {ps' l : List Pd} {q0 qs : List RV} (h : NoO rus ps' l q0 qs) (hb : l.length ≤ 1000000) : ∃ ps L, ckP [] 0 rus = (none, ps) ∧ Levelled ps rus ps' ∧ Least ps.length (grp (edP ps rus)) L ∧ Fin4 rus l (lvN ps L) := by
  obtain ⟨ps, bad, a1, a2, a3, a4⟩ := h.ck
  have hl : l.length = ps.length := by rw [h.lp.length_eq, a4.len]
  obtain ⟨L, hL, hF⟩ := fin4 (tabl_of a1) a4 h.lp (by omega)
  exact ⟨ps, L, a1, a4, hL, hF⟩
theorem noo_nom {rus : List Ru} {ps ps' l : List Pd} {q0 qs : List RV} {L : Nat → Int} {ns : List ByteArray} {m : List (ByteArray × Value)} {ar : ByteArray → Nat} {q : List Ru} (h : NoO rus ps' l q0 qs) (hk : ckP [] 0 rus = (none, ps)) (hV : Levelled ps rus ps') (hL : Least ps.length (grp (edP ps rus)) L) (hF : Fin4 rus l (lvN ps L)) (h2 : NzM rus (lvN ps L) ns m ar q) : l = ns.map (pdM ar m) ∧ (drL qs).map RV.ru = q := by
  have hT := tabl_of hk
  have hn := names_eq hT hV h.lp h.ls h2.nm
  have hst : ∀ n, Occ rus n → sOf m n = lvN ps L n := fun n ho => st_eq hT hL h2.le h2.so (hT.t.occ ho)
  obtain ⟨s, hs⟩ := lvd_of hT hV h.lp
  have hlm : ∀ p, p ∈ l → p = pdM ar m p.n := fun p hp => by
    have ho : Occ rus p.n := (h2.nm.mem _).1 (by rw [← hn]; exact List.mem_map.2 ⟨p, hp, rfl⟩)
    have h3 := hF.st p hp
    have e2 := (hs.at_ p hp).2
    have : p = ⟨p.n, p.a, p.s⟩ := rfl
    rw [this]
    unfold pdM
    simp only
    rw [h3, hst _ ho, (h2.ar _ ho).2 _ (e2.oc hk)]
  constructor
  · rw [← hn, List.map_map]
    conv => lhs; rw [← List.map_id l]
    exact List.map_congr_left fun p hp => by simp only [id, Function.comp]; exact hlm p hp
  · have d1 := (drO _ qs rfl h.qs).s
    have hlv : ∀ n, Occ rus n → lvP ps' n = sOf m n := fun n ho => by
      have h3 := hT.t.occ ho
      rw [hs.lv _ h3, hst _ ho]
      obtain ⟨p, hp, e⟩ : ∃ p, p ∈ l ∧ p.n = n := by
        have : n ∈ l.map Pd.n := by rw [hn]; exact (h2.nm.mem _).2 ho
        obtain ⟨p, hp, e⟩ := List.mem_map.1 this
        exact ⟨p, hp, e⟩
      have h4 := hF.st p hp
      have h5 := (hs.at_ p hp).1
      rw [e] at h4 h5
      rw [← h4, ← h5]
    have hoc : ∀ x, x ∈ q → Occ rus x.p := fun x hx => by
      obtain ⟨r, hr, e⟩ := (h2.qm x).1 hx
      exact ⟨r, hr, .inl (canR_p e).symm⟩
    have hmm : ∀ x, x ∈ (drL qs).map RV.ru ↔ x ∈ q := fun x => by rw [h.mem x, h2.qm x]
    have d3 : q.Pairwise fun x y => cmpQ (lvP ps') x y < 0 := by
      have h3 := h2.qs.and h2.nd
      refine h3.imp_of_mem fun {x y} hx hy hxy => ?_
      have e1 : cmpQ (lvP ps') x y = cmpQ (sOf m) x y := by unfold cmpQ; rw [hlv _ (hoc x hx), hlv _ (hoc y hy)]
      rw [e1]
      have e2 := (poQ (sOf m)).sw x y
      have e3 : ¬ cmpQ (sOf m) x y = 0 := fun e => hxy.2 (cmpQ_0e e)
      omega
    refine List.Perm.eq_of_pairwise (le := fun x y => cmpQ (lvP ps') x y < 0) (fun x y _ _ h3 h4 => ?_) d1 d3 ((List.perm_ext_iff_of_nodup (nodup_lt (poQ _) d1) h2.nd).2 hmm)
    have := (poQ (lvP ps')).sw x y; omega
end zh


theorem mcheck2 (rs : List RV) (rp : Option Addr) (rc : Nat) (RE : List (Nat × Obj)) (hp : Prg rs rp rc RE) : SpK Tryz.prog 31 #[.agg ⟨[.slice rp rs.length rc]⟩] (PrW rs RE) [] (fun v F' => (∃ f ps, ckP [] 0 (rs.map RV.ru) = (some f, ps) ∧ v = .agg ⟨ftc f⟩ ∧ F' = []) ∨ (∃ ps, ckP [] 0 (rs.map RV.ru) = (none, ps) ∧ v = .agg ⟨ftc ⟨0, 0, 0, 0⟩⟩ ∧ F' = [])) :=
  spk_mono (mcheck_spec rs rp rc RE hp) fun v F h => by
    rcases ck_cases (rs.map RV.ru) with ⟨f, ps, hk⟩ | ⟨ps, hk⟩
    · rw [hk] at h; exact .inl ⟨f, ps, hk, h.1, h.2⟩
    · rw [hk] at h; exact .inr ⟨ps, hk, h.1, h.2⟩
theorem unsafe2 (r : RV) (hr : r.ok) : SpK Tryz.prog 32 #[.agg ⟨[.string r.p, .slice r.hp r.a.length r.hc, .slice r.bp r.ls.length r.bc]⟩] (Mem r.E) [] (fun v F' => (∃ q, safeP r.ru = some q ∧ v = .tuple #[.int .i64 q.1, .int .i64 q.2, .bool true] ∧ F' = []) ∨ (safeP r.ru = none ∧ v = .tuple #[.int .i64 0, .int .i64 0, .bool false] ∧ F' = [])) :=
  spk_mono (unsafe_spec r hr) fun v F h => by
    cases hs : safeP r.ru with
    | some q => rw [hs] at h; exact .inl ⟨q, rfl, h.1, h.2⟩
    | none => rw [hs] at h; exact .inr ⟨rfl, h.1, h.2⟩
theorem negc2 (rs : List RV) (rp : Option Addr) (rc : Nat) (RE : List (Nat × Obj)) (hp : Prg rs rp rc RE) (hb64 : ∀ r, r ∈ (rs.map RV.ru) → r.b.length ≤ 64) : SpK Tryz.prog 33 #[.agg ⟨[.slice rp rs.length rc]⟩] (PrW rs RE) [] (fun v F' => ∃ bad, BadN (rs.map RV.ru) bad ∧ ((∃ i j, negP bad 0 (rs.map RV.ru) = some (i, j) ∧ v = .tuple #[.int .i64 (i : Int), .int .i64 (j : Int), .bool true] ∧ F' = []) ∨ (negP bad 0 (rs.map RV.ru) = none ∧ v = .tuple #[.int .i64 0, .int .i64 0, .bool false] ∧ F' = []))) :=
  spk_mono (negc_spec rs rp rc RE hp hb64) fun v F h => by
    obtain ⟨bad, hB, h1, h2⟩ := h
    refine ⟨bad, hB, ?_⟩
    cases hs : negP bad 0 (rs.map RV.ru) with
    | some q => rw [hs] at h1; exact .inl ⟨q.1, q.2, rfl, h1, h2⟩
    | none => rw [hs] at h1; exact .inr ⟨rfl, h1, h2⟩

attribute [local irreducible] RV.E

def NrM (rus : List Ru) (L : ByteArray → Nat) (n : NmV) (f : Ft) : Prop := (NoFm rus f ∧ n.l = [] ∧ n.q = [] ∧ n.s = 0) ∨ (f = ⟨0, 0, 0, 0⟩ ∧ ∃ ns m ar, NzM rus L ns m ar (n.q.map RV.ru) ∧ n.l = ns.map (pdM ar m) ∧ n.s = stMx n.l)
structure NmR (n : NmV) : Prop where
  l : Row (.slice n.lp n.l.length n.lc) n.l.length (fl pdc n.l) 3 93 n.lE
  r : Row (.slice n.rp n.q.length n.rc) n.q.length (fl RV.c3 n.q) 3 57 n.rE
  o : ∀ x, x ∈ n.q → x.ok
  rl : n.q.length ≤ 65536
theorem nmr0 : NmR ⟨[], none, 0, [], [], none, 0, [], 0⟩ := ⟨Row.nil _ _, Row.nil _ _, fun x h => (by cases h), Nat.zero_le _⟩

set_option maxHeartbeats 16000000 in
theorem mnorm_spec (rs : List RV) (rp : Option Addr) (rc : Nat) (RE : List (Nat × Obj)) (hp : Prg rs rp rc RE) (hr9 : rs.length ≤ 12) (h5 : ∀ r, r ∈ rs → r.ls.length ≤ 5) (L : ByteArray → Nat) (hL : (∃ ps bad, ckP [] 0 (rs.map RV.ru) = (none, ps) ∧ BadN (rs.map RV.ru) bad ∧ negP bad 0 (rs.map RV.ru) = none ∧ usP 0 (rs.map RV.ru) = none) → NSol (rs.map RV.ru) L ∧ ∀ n, L n ≤ 1000000) : SpK Tryz.prog 8 #[.agg ⟨[.slice rp rs.length rc]⟩] (PrW rs RE) [] (fun v F' => ∃ n f G, NmR n ∧ NrM (rs.map RV.ru) L n f ∧ v = .tuple #[.agg ⟨[.slice n.lp n.l.length n.lc, .slice n.rp n.q.length n.rc, .int .i64 (n.s : Int)]⟩, .agg ⟨ftc f⟩] ∧ NmG n G ∧ F' = n.lE ++ (n.rE ++ G)) := by
  refine f_enter (args := [.agg ⟨[.slice rp rs.length rc]⟩]) Tryz.func8 rfl Tryz.ntmps8 rfl ?_
  intro w0 w a hpre hl hh
  have hrn := hp.len
  simp only [slotsFrom, Nat.reduceAdd] at hl
  refine c_seq ?_
  refine c_region ?_
  refine wl (w_box hl hh rfl trivial rfl rfl ?_)
  clear hl hh a w; intro k1 a w hl hh
  refine wl (w_alloc hl hh rfl trivial zero33 rfl ?_)
  clear hl hh a w; intro k2 a w hl hh
  refine wl (w_alloc hl hh rfl trivial zero36 rfl ?_)
  clear hl hh a w; intro k3 a w hl hh
  refine w_nil ?_
  have hl2 := hl.add (t := 1) (hl.add (t := 2) (hl.add (t := 3) (hl.nil) rfl) rfl) rfl; clear hl; have hl := hl2; clear hl2
  refine then_normal ?_
  refine c_seq ?_
  refine c_seq ?_
  refine c_region ?_
  first | refine wl (w_loadA hl hh rfl trivial agg26 rfl (by repeat (first | exact find_head | apply find_tail | apply find_skip)) (by first | (simp only [List.getElem?_cons_zero, List.getElem?_cons_succ, Value.cells, List.take_zero, List.take_succ_cons, List.take_nil, List.drop_zero, List.drop_succ_cons, List.drop_nil, List.length_cons, List.length_nil, List.cons_append, List.nil_append, List.append_nil, Nat.zero_add, Nat.add_zero, Nat.reduceAdd, Nat.reduceBEq, Nat.reduceEqDiff, Nat.ble, BEq.rfl, Bool.and_true, Bool.and_self, cond_true, beq_self_eq_true]; rfl)) (by first | rfl | (simp; done)) ?_) | refine wl (w_loadRA hl hh rfl trivial agg26 rfl hm1 (by simp) hd1 rfl ?_)
  clear hl a; intro a hl
  refine wl (w_call hl hh rfl trivial rfl cal31 rfl (mcheck2 rs rp rc RE hp) (by repeat (first | exact keeps_nil | apply keeps_cons (by repeat (first | exact find_head | apply find_tail | apply find_skip)) (by first  | rfl) | exact keeps_self | exact keeps_left | apply keeps_app | apply keeps_mv | apply keeps_skip)) ⟨mem_keep hh hpre.re, fun r hr => mem_keep hh (hpre.each r hr)⟩ ?_)
  clear hl hh a w; intro vc Fc a w hR hl hh
  rcases hR with ⟨f, ps, hk, rfl, rfl⟩ | ⟨ps, hk, rfl, rfl⟩
  ·
    try simp only [List.cons_append, List.nil_append, List.append_nil] at hh
    have hfc := ckP_c _ _ _ _ _ hk
    simp only [ftc] at hl
    refine wl (w_alloc hl hh rfl trivial zero36 rfl ?_)
    clear hl hh a w; intro k4 a w hl hh
    refine wl (w_storeA hl hh trivial agg36 rfl rfl (by repeat (first | exact find_head | apply find_tail | apply find_skip)) (by first | rfl | (simp; done)) (by first | (simp; done) | (simp; omega)) (by first | rfl | (simp; done) | rfl) (by first | (simp only [setL, List.getElem?_cons_zero, List.getElem?_cons_succ, Value.cells, List.take_zero, List.take_succ_cons, List.take_nil, List.drop_zero, List.drop_succ_cons, List.drop_nil, List.length_cons, List.length_nil, List.cons_append, List.nil_append, List.append_nil, Nat.zero_add, Nat.add_zero, Nat.reduceAdd, Nat.reduceBEq, Nat.reduceEqDiff, Nat.ble, BEq.rfl, Bool.and_true, Bool.and_self, cond_true, beq_self_eq_true]; rfl)) ?_)
    clear hh w; intro w hh
    refine w_nil ?_
    have hl2 := hl.add (t := 1) (hl.add (t := 2) (hl.add (t := 3) (hl.add (t := 4) (hl.nil) rfl) rfl) rfl) rfl; clear hl; have hl := hl2; clear hl2
    refine then_normal ?_
    refine c_seq ?_
    refine c_region ?_
    refine wl (wl_val hl rfl trivial (r_field hl rfl fld36_0) ?_)
    clear hl a; intro a hl
    first | refine wl (w_load hl hh rfl trivial one34 rfl (by repeat (first | exact find_head | apply find_tail | apply find_skip)) (by first | rfl | rfl) ?_) | refine wl (wl_val hl rfl trivial (r_load hl rfl one34 (hh.mem _ _ (by repeat (first | exact hbnm | exact List.mem_append_left _ hbnm | apply List.mem_cons_of_mem | apply List.mem_append_right))) (List.getElem?_toArray.trans (fcS hni jn))) ?_)
    clear hl a; intro a hl
    refine wl (wl_val hl rfl trivial (r_neq hl rfl rfl) ?_)
    clear hl a; intro a hl
    first | rw [show decide (f.c ≠ 0) = true from decide_eq_true (by omega)] at hl | skip
    refine w_nil ?_
    have hl2 := hl.add (t := 1) (hl.add (t := 2) (hl.add (t := 3) (hl.add (t := 4) (hl.add (t := 24) (hl.nil) rfl) rfl) rfl) rfl) rfl; clear hl; have hl := hl2; clear hl2
    refine then_normal ?_
    refine c_condT hl rfl ?_
    refine c_seq ?_
    refine c_draw [(k4, C [.int .u8 f.c, .int .i64 f.r, .int .i64 f.l, .int .i64 f.a] 36)] [3] mixed hh ?_
    clear hh w; intro w hh
    have hM : Mem [(k4, C [.int .u8 f.c, .int .i64 f.r, .int .i64 f.l, .int .i64 f.a] 36)] w := (by (repeat (first | exact Mem.nil | refine Mem.consR hh (by assumption) (by simp) ?_ | refine Mem.cons hh.mem (by (repeat (first | exact find_head | apply find_tail | apply find_skip)); done) ?_ | fail)); done)
    refine d_take (i := 0) hl rfl (by kernel_rfl) (by kernel_rfl) (by kernel_rfl) (by kernel_rfl) (by kernel_rfl) rfl trivial (fun _ _ _ h => h) hM (fun w hC => r_build hl rfl zero33 bld33 (by simp only [fillL, setL, List.getElem?_cons_zero, List.getElem?_cons_succ, Value.cells, List.take_zero, List.take_succ_cons, List.take_nil, List.drop_zero, List.drop_succ_cons, List.drop_nil, List.length_cons, List.length_nil, List.cons_append, List.nil_append, List.append_nil, Nat.zero_add, Nat.add_zero, Nat.reduceAdd, Nat.reduceBEq, Nat.reduceEqDiff, Nat.ble, BEq.rfl, Bool.and_true, Bool.and_self, cond_true, beq_self_eq_true]; rfl)) rfl ?_
    clear hl a; intro a hl
    refine d_take (i := 1) hl rfl (by kernel_rfl) (by kernel_rfl) (by kernel_rfl) (by kernel_rfl) (by kernel_rfl) rfl trivial (fun _ _ _ h => h) hM (fun w hC => r_loadCA hl rfl agg36 hC (by repeat (first | exact find_head | apply find_tail | apply find_skip)) (by first | (simp only [List.getElem?_cons_zero, List.getElem?_cons_succ, Value.cells, List.take_zero, List.take_succ_cons, List.take_nil, List.drop_zero, List.drop_succ_cons, List.drop_nil, List.length_cons, List.length_nil, List.cons_append, List.nil_append, List.append_nil, Nat.zero_add, Nat.add_zero, Nat.reduceAdd, Nat.reduceBEq, Nat.reduceEqDiff, Nat.ble, BEq.rfl, Bool.and_true, Bool.and_self, cond_true, beq_self_eq_true]; rfl)) (by first | rfl | (simp; done))) rfl ?_
    clear hl a; intro a hl
    refine d_one (i := 2) (by kernel_rfl) rfl ?_
    try clear hM
    refine id (w_storeA hl hh trivial agg33 rfl rfl (by repeat (first | exact find_head | apply find_tail | apply find_skip)) (by first | rfl | (simp; done)) (by first | (simp; done) | (simp; omega)) (by first | rfl | (simp; done) | rfl) (by first | (simp only [setL, List.getElem?_cons_zero, List.getElem?_cons_succ, Value.cells, List.take_zero, List.take_succ_cons, List.take_nil, List.drop_zero, List.drop_succ_cons, List.drop_nil, List.length_cons, List.length_nil, List.cons_append, List.nil_append, List.append_nil, Nat.zero_add, Nat.add_zero, Nat.reduceAdd, Nat.reduceBEq, Nat.reduceEqDiff, Nat.ble, BEq.rfl, Bool.and_true, Bool.and_self, cond_true, beq_self_eq_true]; rfl)) ?_)
    clear hh w; intro w hh
    have hM : Mem [(k4, C [.int .u8 f.c, .int .i64 f.r, .int .i64 f.l, .int .i64 f.a] 36)] w := (by (repeat (first | exact Mem.nil | refine Mem.consR hh (by assumption) (by simp) ?_ | refine Mem.cons hh.mem (by (repeat (first | exact find_head | apply find_tail | apply find_skip)); done) ?_ | fail)); done)
    refine d_step (fun _ => hM) ?_
    refine d_one (i := 3) (by kernel_rfl) rfl ?_
    try clear hM
    refine id (w_storeA hl hh trivial agg36 rfl rfl (by repeat (first | exact find_head | apply find_tail | apply find_skip)) (by first | rfl | (simp; done)) (by first | (simp; done) | (simp; omega)) (by first | rfl | (simp; done) | rfl) (by first | (simp only [setL, List.getElem?_cons_zero, List.getElem?_cons_succ, Value.cells, List.take_zero, List.take_succ_cons, List.take_nil, List.drop_zero, List.drop_succ_cons, List.drop_nil, List.length_cons, List.length_nil, List.cons_append, List.nil_append, List.append_nil, Nat.zero_add, Nat.add_zero, Nat.reduceAdd, Nat.reduceBEq, Nat.reduceEqDiff, Nat.ble, BEq.rfl, Bool.and_true, Bool.and_self, cond_true, beq_self_eq_true]; rfl)) ?_)
    clear hh w; intro w hh
    refine d_step (fun h => absurd h (by decide)) ?_
    refine d_done (by kernel_rfl) ?_
    try clear hM
    have hl2 := hl.add (t := 2) (hl.add (t := 3) (hl.nil) rfl) rfl; clear hl; have hl := hl2; clear hl2
    refine then_normal ?_
    refine wp_ret ?_
    refine then_ret ?_
    refine f_retCC (F' := []) hl hh rfl rfl rfl agg33 agg36 (by repeat (first | exact find_head | apply find_tail | apply find_skip)) (by repeat (first | exact find_head | apply find_tail | apply find_skip)) (by first | rfl | (simp; done)) (by first | rfl | (simp; done)) (by repeat (first | exact keeps_nil | apply keeps_cons (by repeat (first | exact find_head | apply find_tail | apply find_skip)) (by first  | rfl) | exact keeps_self | exact keeps_left | apply keeps_app | apply keeps_mv | apply keeps_skip)) ?_
    exact ⟨⟨[], none, 0, [], [], none, 0, [], 0⟩, f, [], nmr0, .inl ⟨.inl ⟨ps, hk⟩, rfl, rfl, rfl⟩, rfl, fun x hx => (by cases hx), rfl⟩
  ·
    try simp only [List.cons_append, List.nil_append, List.append_nil] at hh
    have hTa := tabl_of hk
    obtain ⟨ar, har⟩ := ar_of hk
    simp only [ftc] at hl
    refine wl (w_alloc hl hh rfl trivial zero36 rfl ?_)
    clear hl hh a w; intro k4 a w hl hh
    refine wl (w_storeA hl hh trivial agg36 rfl rfl (by repeat (first | exact find_head | apply find_tail | apply find_skip)) (by first | rfl | (simp; done)) (by first | (simp; done) | (simp; omega)) (by first | rfl | (simp; done) | rfl) (by first | (simp only [setL, List.getElem?_cons_zero, List.getElem?_cons_succ, Value.cells, List.take_zero, List.take_succ_cons, List.take_nil, List.drop_zero, List.drop_succ_cons, List.drop_nil, List.length_cons, List.length_nil, List.cons_append, List.nil_append, List.append_nil, Nat.zero_add, Nat.add_zero, Nat.reduceAdd, Nat.reduceBEq, Nat.reduceEqDiff, Nat.ble, BEq.rfl, Bool.and_true, Bool.and_self, cond_true, beq_self_eq_true]; rfl)) ?_)
    clear hh w; intro w hh
    refine w_nil ?_
    have hl2 := hl.add (t := 1) (hl.add (t := 2) (hl.add (t := 3) (hl.add (t := 4) (hl.nil) rfl) rfl) rfl) rfl; clear hl; have hl := hl2; clear hl2
    refine then_normal ?_
    refine c_seq ?_
    refine c_region ?_
    refine wl (wl_val hl rfl trivial (r_field hl rfl fld36_0) ?_)
    clear hl a; intro a hl
    first | refine wl (w_load hl hh rfl trivial one34 rfl (by repeat (first | exact find_head | apply find_tail | apply find_skip)) (by first | rfl | rfl) ?_) | refine wl (wl_val hl rfl trivial (r_load hl rfl one34 (hh.mem _ _ (by repeat (first | exact hbnm | exact List.mem_append_left _ hbnm | apply List.mem_cons_of_mem | apply List.mem_append_right))) (List.getElem?_toArray.trans (fcS hni jn))) ?_)
    clear hl a; intro a hl
    refine wl (wl_val hl rfl trivial (r_neq hl rfl rfl) ?_)
    clear hl a; intro a hl
    first | rw [show decide (f.c ≠ 0) = true from decide_eq_true (by omega)] at hl | skip
    refine w_nil ?_
    have hl2 := hl.add (t := 1) (hl.add (t := 2) (hl.add (t := 3) (hl.add (t := 4) (hl.add (t := 24) (hl.nil) rfl) rfl) rfl) rfl) rfl; clear hl; have hl := hl2; clear hl2
    refine then_normal ?_
    refine c_condF hl rfl ?_
    refine wp_skip ?_
    refine then_normal ?_
    refine c_seq ?_
    refine c_seq ?_
    refine c_region ?_
    refine wl (wl_val hl rfl trivial (r_field hl rfl fld26_0) ?_)
    clear hl a; intro a hl
    first | refine wl (w_load hl hh rfl trivial one24 rfl (by repeat (first | exact find_head | apply find_tail | apply find_skip)) (by first | rfl | rfl) ?_) | refine wl (wl_val hl rfl trivial (r_load hl rfl one24 (hh.mem _ _ (by repeat (first | exact hbnm | exact List.mem_append_left _ hbnm | apply List.mem_cons_of_mem | apply List.mem_append_right))) (List.getElem?_toArray.trans (fcS hni jn))) ?_)
    clear hl a; intro a hl
    refine wl (wl_val hl rfl trivial (r_lenS hl rfl slc24) ?_)
    clear hl a; intro a hl
    refine wl (wl_val hl rfl trivial (r_move hl rfl) ?_)
    clear hl a; intro a hl
    refine w_nil ?_
    have hl2 := hl.add (t := 1) (hl.add (t := 2) (hl.add (t := 3) (hl.add (t := 28) (hl.add (t := 29) (hl.add (t := 30) (hl.nil) rfl) rfl) rfl) rfl) rfl) rfl; clear hl; have hl := hl2; clear hl2
    refine then_normal ?_
    refine wp_block ?_
    obtain ⟨KS0, hKS0, hk⟩ := (hl.add (t := 1) (hl.add (t := 2) (hl.add (t := 3) (hl.add (t := 28) (hl.add (t := 29) (hl.nil) rfl) rfl) rfl) rfl) rfl).name
    obtain ⟨HS0, hHS0, hh2⟩ := hh.name (keeps_nil)
    refine c_loop (α := Nat) (fun i => rs.length - i) (fun i a w => (i ≤ rs.length ∧ usP 0 (rs.map RV.ru) = usP i ((rs.map RV.ru).drop i)) ∧ Sl 122 ([(30, .int .i64 (i : Int))] ++ KS0) a ∧ Has _ w0 ([] ++ HS0) w) 0 ⟨⟨Nat.zero_le _, rfl⟩, hl.addE (t := 30) (hk) rfl (by first | rfl), hh2⟩ ?_
    clear hk hh2 hl hh a w
    intro i a w hI
    obtain ⟨⟨hi, hus⟩, hl, hh⟩ := hI
    subst hKS0; subst hHS0
    simp only [List.cons_append, List.nil_append, List.append_nil, List.append_assoc] at hl hh
    refine c_seq ?_
    refine c_region ?_
    refine wl (wl_val hl rfl trivial (r_lss hl rfl rfl) ?_)
    clear hl a; intro a hl
    refine w_nil ?_
    have hl2 := hl.add (t := 1) (hl.add (t := 2) (hl.add (t := 3) (hl.add (t := 28) (hl.add (t := 29) (hl.add (t := 30) (hl.add (t := 31) (hl.nil) rfl) rfl) rfl) rfl) rfl) rfl) rfl; clear hl; have hl := hl2; clear hl2
    refine then_normal ?_
    refine c_seq ?_
    refine c_cond hl rfl ?_ ?_
    · intro hc1
      try simp only [decide_eq_true_eq, decide_eq_false_iff_not, Bool.not_eq_true', Bool.not_eq_false', Bool.not_eq_true, Bool.not_eq_false, Bool.and_eq_true, Bool.or_eq_true, Bool.and_eq_false_iff, Bool.or_eq_false_iff, Bool.not_not, ne_eq, Int.not_lt, Int.not_le, Decidable.not_not, beq_iff_eq, bne_iff_ne] at hc1
      obtain ⟨r, hr⟩ : ∃ r, rs[i]? = some r := ⟨_, List.getElem?_eq_getElem (by omega)⟩
      have hrm := List.mem_of_getElem? hr
      have hro := hp.ok r hrm
      obtain ⟨b1, j1, hq1, hE1, hm1⟩ := row_mem hp.row (by omega) hpre.re
      have hd1 := fl_at c3_len hr j1
      simp only [RV.c3] at hd1
      have hrE := hpre.each r hrm
      rw [hq1] at hl hh
      refine wp_skip ?_
      refine then_normal ?_
      refine c_seq ?_
      refine wp_block ?_
      refine c_seq ?_
      refine c_region ?_
      refine wl (wl_val hl rfl trivial (r_move hl rfl) ?_)
      clear hl a; intro a hl
      refine wl (wl_val hl rfl trivial (r_indexS hl rfl rfl slc24 (by omega) (by omega) (by first | (simp only [Int.reduceToNat]; rfl) | exact toNat_add1 _ | exact toNat_add2 _ _ | exact toNat_emod _ _ | exact Int.toNat_natCast _ | rfl)) ?_)
      clear hl a; intro a hl
      first | refine wl (w_loadA hl hh rfl trivial agg57 rfl (by repeat (first | exact find_head | apply find_tail | apply find_skip)) (by first | (simp only [List.getElem?_cons_zero, List.getElem?_cons_succ, Value.cells, List.take_zero, List.take_succ_cons, List.take_nil, List.drop_zero, List.drop_succ_cons, List.drop_nil, List.length_cons, List.length_nil, List.cons_append, List.nil_append, List.append_nil, Nat.zero_add, Nat.add_zero, Nat.reduceAdd, Nat.reduceBEq, Nat.reduceEqDiff, Nat.ble, BEq.rfl, Bool.and_true, Bool.and_self, cond_true, beq_self_eq_true]; rfl)) (by first | rfl | (simp; done)) ?_) | refine wl (w_loadRA hl hh rfl trivial agg57 rfl hm1 (by simp) hd1 rfl ?_)
      clear hl a; intro a hl
      refine wl (w_alloc hl hh rfl trivial zero57 rfl ?_)
      clear hl hh a w; intro k6 a w hl hh
      refine wl (wl_val hl rfl trivial (r_assign hl rfl) ?_)
      clear hl a; intro a hl
      refine wl (w_storeA hl hh trivial agg57 rfl rfl (by repeat (first | exact find_head | apply find_tail | apply find_skip)) (by first | rfl | (simp; done)) (by first | (simp; done) | (simp; omega)) (by first | rfl | (simp; done) | rfl) (by first | (simp only [setL, List.getElem?_cons_zero, List.getElem?_cons_succ, Value.cells, List.take_zero, List.take_succ_cons, List.take_nil, List.drop_zero, List.drop_succ_cons, List.drop_nil, List.length_cons, List.length_nil, List.cons_append, List.nil_append, List.append_nil, Nat.zero_add, Nat.add_zero, Nat.reduceAdd, Nat.reduceBEq, Nat.reduceEqDiff, Nat.ble, BEq.rfl, Bool.and_true, Bool.and_self, cond_true, beq_self_eq_true]; rfl)) ?_)
      clear hh w; intro w hh
      refine w_nil ?_
      have hl2 := hl.add (t := 1) (hl.add (t := 2) (hl.add (t := 3) (hl.add (t := 5) (hl.add (t := 6) (hl.add (t := 28) (hl.add (t := 29) (hl.add (t := 30) (hl.nil) rfl) rfl) rfl) rfl) rfl) rfl) rfl) rfl; clear hl; have hl := hl2; clear hl2
      refine then_normal ?_
      refine c_seq ?_
      refine c_region ?_
      first | refine wl (w_loadA hl hh rfl trivial agg57 rfl (by repeat (first | exact find_head | apply find_tail | apply find_skip)) (by first | (simp only [List.getElem?_cons_zero, List.getElem?_cons_succ, Value.cells, List.take_zero, List.take_succ_cons, List.take_nil, List.drop_zero, List.drop_succ_cons, List.drop_nil, List.length_cons, List.length_nil, List.cons_append, List.nil_append, List.append_nil, Nat.zero_add, Nat.add_zero, Nat.reduceAdd, Nat.reduceBEq, Nat.reduceEqDiff, Nat.ble, BEq.rfl, Bool.and_true, Bool.and_self, cond_true, beq_self_eq_true]; rfl)) (by first | rfl | (simp; done)) ?_) | refine wl (w_loadRA hl hh rfl trivial agg57 rfl hm1 (by simp) hd1 rfl ?_)
      clear hl a; intro a hl
      refine wl (w_call hl hh rfl trivial rfl cal32 rfl (unsafe2 r hro) (by repeat (first | exact keeps_nil | apply keeps_cons (by repeat (first | exact find_head | apply find_tail | apply find_skip)) (by first  | rfl) | exact keeps_self | exact keeps_left | apply keeps_app | apply keeps_mv | apply keeps_skip)) (mem_keep hh hrE) ?_)
      clear hl hh a w; intro vc Fc a w hR hl hh
      rcases hR with ⟨qq, hsf, rfl, rfl⟩ | ⟨hsf, rfl, rfl⟩
      ·
        try simp only [List.cons_append, List.nil_append, List.append_nil] at hh
        refine wl (wl_val hl rfl trivial (r_move hl rfl) ?_)
        clear hl a; intro a hl
        refine wl (wl_val hl rfl trivial (r_extract hl rfl (by simp only [List.getElem?_toArray, List.getElem?_cons_zero, List.getElem?_cons_succ]; rfl)) ?_)
        clear hl a; intro a hl
        refine wl (wl_val hl rfl trivial (r_extract hl rfl (by simp only [List.getElem?_toArray, List.getElem?_cons_zero, List.getElem?_cons_succ]; rfl)) ?_)
        clear hl a; intro a hl
        refine wl (wl_val hl rfl trivial (r_extract hl rfl (by simp only [List.getElem?_toArray, List.getElem?_cons_zero, List.getElem?_cons_succ]; rfl)) ?_)
        clear hl a; intro a hl
        refine wl (wl_val hl rfl trivial (r_assign hl rfl) ?_)
        clear hl a; intro a hl
        refine wl (wl_val hl rfl trivial (r_assign hl rfl) ?_)
        clear hl a; intro a hl
        refine wl (wl_val hl rfl trivial (r_assign hl rfl) ?_)
        clear hl a; intro a hl
        refine w_nil ?_
        have hl2 := hl.add (t := 1) (hl.add (t := 2) (hl.add (t := 3) (hl.add (t := 5) (hl.add (t := 7) (hl.add (t := 8) (hl.add (t := 9) (hl.add (t := 28) (hl.add (t := 29) (hl.add (t := 30) (hl.nil) rfl) rfl) rfl) rfl) rfl) rfl) rfl) rfl) rfl) rfl; clear hl; have hl := hl2; clear hl2
        refine then_normal ?_
        refine c_seq ?_
        refine c_region ?_
        refine wl (wl_val hl rfl trivial (r_move hl rfl) ?_)
        clear hl a; intro a hl
        refine w_nil ?_
        have hl2 := hl.add (t := 1) (hl.add (t := 2) (hl.add (t := 3) (hl.add (t := 5) (hl.add (t := 7) (hl.add (t := 8) (hl.add (t := 28) (hl.add (t := 29) (hl.add (t := 30) (hl.add (t := 41) (hl.nil) rfl) rfl) rfl) rfl) rfl) rfl) rfl) rfl) rfl) rfl; clear hl; have hl := hl2; clear hl2
        refine then_normal ?_
        refine c_condT hl rfl ?_
        refine c_seq ?_
        refine c_region ?_
        refine wl (wl_val hl rfl trivial (r_build hl rfl zero33 bld33 (by simp only [fillL, setL, List.getElem?_cons_zero, List.getElem?_cons_succ, Value.cells, List.take_zero, List.take_succ_cons, List.take_nil, List.drop_zero, List.drop_succ_cons, List.drop_nil, List.length_cons, List.length_nil, List.cons_append, List.nil_append, List.append_nil, Nat.zero_add, Nat.add_zero, Nat.reduceAdd, Nat.reduceBEq, Nat.reduceEqDiff, Nat.ble, BEq.rfl, Bool.and_true, Bool.and_self, cond_true, beq_self_eq_true]; rfl)) ?_)
        clear hl a; intro a hl
        refine wl (wl_val hl rfl trivial (r_move hl rfl) ?_)
        clear hl a; intro a hl
        refine wl (wl_val hl rfl trivial (r_move hl rfl) ?_)
        clear hl a; intro a hl
        refine wl (wl_val hl rfl trivial (r_move hl rfl) ?_)
        clear hl a; intro a hl
        refine wl (wl_val hl rfl trivial (r_build hl rfl zero36 bld36 (by simp only [fillL, setL, List.getElem?_cons_zero, List.getElem?_cons_succ, Value.cells, List.take_zero, List.take_succ_cons, List.take_nil, List.drop_zero, List.drop_succ_cons, List.drop_nil, List.length_cons, List.length_nil, List.cons_append, List.nil_append, List.append_nil, Nat.zero_add, Nat.add_zero, Nat.reduceAdd, Nat.reduceBEq, Nat.reduceEqDiff, Nat.ble, BEq.rfl, Bool.and_true, Bool.and_self, cond_true, beq_self_eq_true]; rfl)) ?_)
        clear hl a; intro a hl
        refine wl (w_storeA hl hh trivial agg33 rfl rfl (by repeat (first | exact find_head | apply find_tail | apply find_skip)) (by first | rfl | (simp; done)) (by first | (simp; done) | (simp; omega)) (by first | rfl | (simp; done) | rfl) (by first | (simp only [setL, List.getElem?_cons_zero, List.getElem?_cons_succ, Value.cells, List.take_zero, List.take_succ_cons, List.take_nil, List.drop_zero, List.drop_succ_cons, List.drop_nil, List.length_cons, List.length_nil, List.cons_append, List.nil_append, List.append_nil, Nat.zero_add, Nat.add_zero, Nat.reduceAdd, Nat.reduceBEq, Nat.reduceEqDiff, Nat.ble, BEq.rfl, Bool.and_true, Bool.and_self, cond_true, beq_self_eq_true]; rfl)) ?_)
        clear hh w; intro w hh
        refine wl (w_storeA hl hh trivial agg36 rfl rfl (by repeat (first | exact find_head | apply find_tail | apply find_skip)) (by first | rfl | (simp; done)) (by first | (simp; done) | (simp; omega)) (by first | rfl | (simp; done) | rfl) (by first | (simp only [setL, List.getElem?_cons_zero, List.getElem?_cons_succ, Value.cells, List.take_zero, List.take_succ_cons, List.take_nil, List.drop_zero, List.drop_succ_cons, List.drop_nil, List.length_cons, List.length_nil, List.cons_append, List.nil_append, List.append_nil, Nat.zero_add, Nat.add_zero, Nat.reduceAdd, Nat.reduceBEq, Nat.reduceEqDiff, Nat.ble, BEq.rfl, Bool.and_true, Bool.and_self, cond_true, beq_self_eq_true]; rfl)) ?_)
        clear hh w; intro w hh
        refine w_nil ?_
        have hl2 := hl.add (t := 2) (hl.add (t := 3) (hl.nil) rfl) rfl; clear hl; have hl := hl2; clear hl2
        refine then_normal ?_
        refine wp_ret ?_
        refine blk_ret ?_
        refine then_ret ?_
        refine then_ret ?_
        refine blk_ret ?_
        refine then_ret ?_
        refine f_retCC (F' := []) hl hh rfl rfl rfl agg33 agg36 (by repeat (first | exact find_head | apply find_tail | apply find_skip)) (by repeat (first | exact find_head | apply find_tail | apply find_skip)) (by first | rfl | (simp; done)) (by first | rfl | (simp; done)) (by repeat (first | exact keeps_nil | apply keeps_cons (by repeat (first | exact find_head | apply find_tail | apply find_skip)) (by first  | rfl) | exact keeps_self | exact keeps_left | apply keeps_app | apply keeps_mv | apply keeps_skip)) ?_
        exact ⟨⟨[], none, 0, [], [], none, 0, [], 0⟩, ⟨4, (i : Int), qq.1, qq.2⟩, [], nmr0, .inl ⟨.inr ⟨ps, hk, .inl ⟨i, qq.1, qq.2, hus.trans (usP_hit (ru_at hr) hsf), rfl⟩⟩, rfl, rfl, rfl⟩, rfl, fun x hx => (by cases hx), rfl⟩
      ·
        try simp only [List.cons_append, List.nil_append, List.append_nil] at hh
        refine wl (wl_val hl rfl trivial (r_move hl rfl) ?_)
        clear hl a; intro a hl
        refine wl (wl_val hl rfl trivial (r_extract hl rfl (by simp only [List.getElem?_toArray, List.getElem?_cons_zero, List.getElem?_cons_succ]; rfl)) ?_)
        clear hl a; intro a hl
        refine wl (wl_val hl rfl trivial (r_extract hl rfl (by simp only [List.getElem?_toArray, List.getElem?_cons_zero, List.getElem?_cons_succ]; rfl)) ?_)
        clear hl a; intro a hl
        refine wl (wl_val hl rfl trivial (r_extract hl rfl (by simp only [List.getElem?_toArray, List.getElem?_cons_zero, List.getElem?_cons_succ]; rfl)) ?_)
        clear hl a; intro a hl
        refine wl (wl_val hl rfl trivial (r_assign hl rfl) ?_)
        clear hl a; intro a hl
        refine wl (wl_val hl rfl trivial (r_assign hl rfl) ?_)
        clear hl a; intro a hl
        refine wl (wl_val hl rfl trivial (r_assign hl rfl) ?_)
        clear hl a; intro a hl
        refine w_nil ?_
        have hl2 := hl.add (t := 1) (hl.add (t := 2) (hl.add (t := 3) (hl.add (t := 5) (hl.add (t := 7) (hl.add (t := 8) (hl.add (t := 9) (hl.add (t := 28) (hl.add (t := 29) (hl.add (t := 30) (hl.nil) rfl) rfl) rfl) rfl) rfl) rfl) rfl) rfl) rfl) rfl; clear hl; have hl := hl2; clear hl2
        refine then_normal ?_
        refine c_seq ?_
        refine c_region ?_
        refine wl (wl_val hl rfl trivial (r_move hl rfl) ?_)
        clear hl a; intro a hl
        refine w_nil ?_
        have hl2 := hl.add (t := 1) (hl.add (t := 2) (hl.add (t := 3) (hl.add (t := 5) (hl.add (t := 7) (hl.add (t := 8) (hl.add (t := 28) (hl.add (t := 29) (hl.add (t := 30) (hl.add (t := 41) (hl.nil) rfl) rfl) rfl) rfl) rfl) rfl) rfl) rfl) rfl) rfl; clear hl; have hl := hl2; clear hl2
        refine then_normal ?_
        refine c_condF hl rfl ?_
        refine wp_skip ?_
        refine blk_normal ?_
        refine then_normal ?_
        refine c_region ?_
        first | refine wl (wl_val hl rfl trivial (r_add hl rfl rfl (by simp only [Fits]; omega)) ?_) | refine wl (wl_val hl rfl trivial (r_addW hl rfl rfl) ?_)
        clear hl a; intro a hl
        refine wl (wl_val hl rfl trivial (r_move hl rfl) ?_)
        clear hl a; intro a hl
        refine w_nil ?_
        have hl2 := hl.add (t := 1) (hl.add (t := 2) (hl.add (t := 3) (hl.add (t := 28) (hl.add (t := 29) (hl.add (t := 30) (hl.nil) rfl) rfl) rfl) rfl) rfl) rfl; clear hl; have hl := hl2; clear hl2
        refine then_normal ?_
        refine ⟨i + 1, (by omega), ⟨by omega, hus.trans (usP_go (ru_at hr) hsf)⟩, hl.addE (t := 30) (hl.addE (t := 1) (hl.addE (t := 2) (hl.addE (t := 3) (hl.addE (t := 28) (hl.addE (t := 29) (hl.nil) rfl (by first | rfl | exact congrArg (Value.int .i64) (show (i : Int) + 1 = ((i + 1 : Nat) : Int) by omega) | (rw [hq1]))) rfl (by first | rfl | exact congrArg (Value.int .i64) (show (i : Int) + 1 = ((i + 1 : Nat) : Int) by omega) | (rw [hq1]))) rfl (by first | rfl | exact congrArg (Value.int .i64) (show (i : Int) + 1 = ((i + 1 : Nat) : Int) by omega) | (rw [hq1]))) rfl (by first | rfl | exact congrArg (Value.int .i64) (show (i : Int) + 1 = ((i + 1 : Nat) : Int) by omega) | (rw [hq1]))) rfl (by first | rfl | exact congrArg (Value.int .i64) (show (i : Int) + 1 = ((i + 1 : Nat) : Int) by omega) | (rw [hq1]))) rfl (by first | rfl | exact congrArg (Value.int .i64) (show (i : Int) + 1 = ((i + 1 : Nat) : Int) by omega) | (rw [hq1])), hh.keep (by repeat (first | exact keeps_nil | apply keeps_cons (by repeat (first | exact find_head | apply find_tail | apply find_skip)) (by first  | (rw [hq1]) | rfl) | exact keeps_self | exact keeps_left | apply keeps_app | apply keeps_mv | apply keeps_skip))⟩
    · intro hc1
      try simp only [decide_eq_true_eq, decide_eq_false_iff_not, Bool.not_eq_true', Bool.not_eq_false', Bool.not_eq_true, Bool.not_eq_false, Bool.and_eq_true, Bool.or_eq_true, Bool.and_eq_false_iff, Bool.or_eq_false_iff, Bool.not_not, ne_eq, Int.not_lt, Int.not_le, Decidable.not_not, beq_iff_eq, bne_iff_ne] at hc1
      have hie : i = rs.length := by omega
      rw [hie, usP_end (by simp)] at hus
      refine wp_exit ?_
      refine then_exit ?_
      refine then_exit ?_
      refine blk_exit ?_
      refine then_normal ?_
      refine c_seq ?_
      refine c_seq ?_
      refine c_region ?_
      first | refine wl (w_loadA hl hh rfl trivial agg26 rfl (by repeat (first | exact find_head | apply find_tail | apply find_skip)) (by first | (simp only [List.getElem?_cons_zero, List.getElem?_cons_succ, Value.cells, List.take_zero, List.take_succ_cons, List.take_nil, List.drop_zero, List.drop_succ_cons, List.drop_nil, List.length_cons, List.length_nil, List.cons_append, List.nil_append, List.append_nil, Nat.zero_add, Nat.add_zero, Nat.reduceAdd, Nat.reduceBEq, Nat.reduceEqDiff, Nat.ble, BEq.rfl, Bool.and_true, Bool.and_self, cond_true, beq_self_eq_true]; rfl)) (by first | rfl | (simp; done)) ?_) | refine wl (w_loadRA hl hh rfl trivial agg26 rfl hm1 (by simp) hd1 rfl ?_)
      clear hl a; intro a hl
      refine wl (w_call hl hh rfl trivial rfl cal33 rfl (negc2 rs rp rc RE hp (fun r hr => hTa.t.b r hr)) (by repeat (first | exact keeps_nil | apply keeps_cons (by repeat (first | exact find_head | apply find_tail | apply find_skip)) (by first  | rfl) | exact keeps_self | exact keeps_left | apply keeps_app | apply keeps_mv | apply keeps_skip)) ⟨mem_keep hh hpre.re, fun r hr => mem_keep hh (hpre.each r hr)⟩ ?_)
      clear hl hh a w; intro vc Fc a w hR hl hh
      rcases hR with ⟨bad, hB, ⟨i9, j9, hn, rfl, rfl⟩ | ⟨hn, rfl, rfl⟩⟩
      ·
        try simp only [List.cons_append, List.nil_append, List.append_nil] at hh
        refine wl (wl_val hl rfl trivial (r_move hl rfl) ?_)
        clear hl a; intro a hl
        refine wl (wl_val hl rfl trivial (r_extract hl rfl (by simp only [List.getElem?_toArray, List.getElem?_cons_zero, List.getElem?_cons_succ]; rfl)) ?_)
        clear hl a; intro a hl
        refine wl (wl_val hl rfl trivial (r_extract hl rfl (by simp only [List.getElem?_toArray, List.getElem?_cons_zero, List.getElem?_cons_succ]; rfl)) ?_)
        clear hl a; intro a hl
        refine wl (wl_val hl rfl trivial (r_extract hl rfl (by simp only [List.getElem?_toArray, List.getElem?_cons_zero, List.getElem?_cons_succ]; rfl)) ?_)
        clear hl a; intro a hl
        refine wl (wl_val hl rfl trivial (r_assign hl rfl) ?_)
        clear hl a; intro a hl
        refine wl (wl_val hl rfl trivial (r_assign hl rfl) ?_)
        clear hl a; intro a hl
        refine wl (wl_val hl rfl trivial (r_assign hl rfl) ?_)
        clear hl a; intro a hl
        refine w_nil ?_
        have hl2 := hl.add (t := 1) (hl.add (t := 2) (hl.add (t := 3) (hl.add (t := 10) (hl.add (t := 11) (hl.add (t := 12) (hl.nil) rfl) rfl) rfl) rfl) rfl) rfl; clear hl; have hl := hl2; clear hl2
        refine then_normal ?_
        refine c_seq ?_
        refine c_region ?_
        refine wl (wl_val hl rfl trivial (r_move hl rfl) ?_)
        clear hl a; intro a hl
        refine w_nil ?_
        have hl2 := hl.add (t := 1) (hl.add (t := 2) (hl.add (t := 3) (hl.add (t := 10) (hl.add (t := 11) (hl.add (t := 54) (hl.nil) rfl) rfl) rfl) rfl) rfl) rfl; clear hl; have hl := hl2; clear hl2
        refine then_normal ?_
        refine c_condT hl rfl ?_
        refine c_seq ?_
        refine c_region ?_
        refine wl (wl_val hl rfl trivial (r_build hl rfl zero33 bld33 (by simp only [fillL, setL, List.getElem?_cons_zero, List.getElem?_cons_succ, Value.cells, List.take_zero, List.take_succ_cons, List.take_nil, List.drop_zero, List.drop_succ_cons, List.drop_nil, List.length_cons, List.length_nil, List.cons_append, List.nil_append, List.append_nil, Nat.zero_add, Nat.add_zero, Nat.reduceAdd, Nat.reduceBEq, Nat.reduceEqDiff, Nat.ble, BEq.rfl, Bool.and_true, Bool.and_self, cond_true, beq_self_eq_true]; rfl)) ?_)
        clear hl a; intro a hl
        refine wl (wl_val hl rfl trivial (r_move hl rfl) ?_)
        clear hl a; intro a hl
        refine wl (wl_val hl rfl trivial (r_move hl rfl) ?_)
        clear hl a; intro a hl
        refine wl (wl_val hl rfl trivial (r_build hl rfl zero36 bld36 (by simp only [fillL, setL, List.getElem?_cons_zero, List.getElem?_cons_succ, Value.cells, List.take_zero, List.take_succ_cons, List.take_nil, List.drop_zero, List.drop_succ_cons, List.drop_nil, List.length_cons, List.length_nil, List.cons_append, List.nil_append, List.append_nil, Nat.zero_add, Nat.add_zero, Nat.reduceAdd, Nat.reduceBEq, Nat.reduceEqDiff, Nat.ble, BEq.rfl, Bool.and_true, Bool.and_self, cond_true, beq_self_eq_true]; rfl)) ?_)
        clear hl a; intro a hl
        refine wl (w_storeA hl hh trivial agg33 rfl rfl (by repeat (first | exact find_head | apply find_tail | apply find_skip)) (by first | rfl | (simp; done)) (by first | (simp; done) | (simp; omega)) (by first | rfl | (simp; done) | rfl) (by first | (simp only [setL, List.getElem?_cons_zero, List.getElem?_cons_succ, Value.cells, List.take_zero, List.take_succ_cons, List.take_nil, List.drop_zero, List.drop_succ_cons, List.drop_nil, List.length_cons, List.length_nil, List.cons_append, List.nil_append, List.append_nil, Nat.zero_add, Nat.add_zero, Nat.reduceAdd, Nat.reduceBEq, Nat.reduceEqDiff, Nat.ble, BEq.rfl, Bool.and_true, Bool.and_self, cond_true, beq_self_eq_true]; rfl)) ?_)
        clear hh w; intro w hh
        refine wl (w_storeA hl hh trivial agg36 rfl rfl (by repeat (first | exact find_head | apply find_tail | apply find_skip)) (by first | rfl | (simp; done)) (by first | (simp; done) | (simp; omega)) (by first | rfl | (simp; done) | rfl) (by first | (simp only [setL, List.getElem?_cons_zero, List.getElem?_cons_succ, Value.cells, List.take_zero, List.take_succ_cons, List.take_nil, List.drop_zero, List.drop_succ_cons, List.drop_nil, List.length_cons, List.length_nil, List.cons_append, List.nil_append, List.append_nil, Nat.zero_add, Nat.add_zero, Nat.reduceAdd, Nat.reduceBEq, Nat.reduceEqDiff, Nat.ble, BEq.rfl, Bool.and_true, Bool.and_self, cond_true, beq_self_eq_true]; rfl)) ?_)
        clear hh w; intro w hh
        refine w_nil ?_
        have hl2 := hl.add (t := 2) (hl.add (t := 3) (hl.nil) rfl) rfl; clear hl; have hl := hl2; clear hl2
        refine then_normal ?_
        refine wp_ret ?_
        refine then_ret ?_
        refine f_retCC (F' := []) hl hh rfl rfl rfl agg33 agg36 (by repeat (first | exact find_head | apply find_tail | apply find_skip)) (by repeat (first | exact find_head | apply find_tail | apply find_skip)) (by first | rfl | (simp; done)) (by first | rfl | (simp; done)) (by repeat (first | exact keeps_nil | apply keeps_cons (by repeat (first | exact find_head | apply find_tail | apply find_skip)) (by first  | rfl) | exact keeps_self | exact keeps_left | apply keeps_app | apply keeps_mv | apply keeps_skip)) ?_
        exact ⟨⟨[], none, 0, [], [], none, 0, [], 0⟩, ⟨5, (i9 : Int), (j9 : Int), -1⟩, [], nmr0, .inl ⟨.inr ⟨ps, hk, .inr ⟨hus, bad, i9, j9, hB, hn, rfl⟩⟩, rfl, rfl, rfl⟩, rfl, fun x hx => (by cases hx), rfl⟩
      ·
        try simp only [List.cons_append, List.nil_append, List.append_nil] at hh
        have hLs := hL ⟨ps, bad, hk, hB, hn, hus⟩
        refine wl (wl_val hl rfl trivial (r_move hl rfl) ?_)
        clear hl a; intro a hl
        refine wl (wl_val hl rfl trivial (r_extract hl rfl (by simp only [List.getElem?_toArray, List.getElem?_cons_zero, List.getElem?_cons_succ]; rfl)) ?_)
        clear hl a; intro a hl
        refine wl (wl_val hl rfl trivial (r_extract hl rfl (by simp only [List.getElem?_toArray, List.getElem?_cons_zero, List.getElem?_cons_succ]; rfl)) ?_)
        clear hl a; intro a hl
        refine wl (wl_val hl rfl trivial (r_extract hl rfl (by simp only [List.getElem?_toArray, List.getElem?_cons_zero, List.getElem?_cons_succ]; rfl)) ?_)
        clear hl a; intro a hl
        refine wl (wl_val hl rfl trivial (r_assign hl rfl) ?_)
        clear hl a; intro a hl
        refine wl (wl_val hl rfl trivial (r_assign hl rfl) ?_)
        clear hl a; intro a hl
        refine wl (wl_val hl rfl trivial (r_assign hl rfl) ?_)
        clear hl a; intro a hl
        refine w_nil ?_
        have hl2 := hl.add (t := 1) (hl.add (t := 2) (hl.add (t := 3) (hl.add (t := 10) (hl.add (t := 11) (hl.add (t := 12) (hl.nil) rfl) rfl) rfl) rfl) rfl) rfl; clear hl; have hl := hl2; clear hl2
        refine then_normal ?_
        refine c_seq ?_
        refine c_region ?_
        refine wl (wl_val hl rfl trivial (r_move hl rfl) ?_)
        clear hl a; intro a hl
        refine w_nil ?_
        have hl2 := hl.add (t := 1) (hl.add (t := 2) (hl.add (t := 3) (hl.add (t := 10) (hl.add (t := 11) (hl.add (t := 54) (hl.nil) rfl) rfl) rfl) rfl) rfl) rfl; clear hl; have hl := hl2; clear hl2
        refine then_normal ?_
        refine c_condF hl rfl ?_
        refine wp_skip ?_
        refine then_normal ?_
        refine c_seq ?_
        refine c_region ?_
        first | refine wl (w_loadA hl hh rfl trivial agg26 rfl (by repeat (first | exact find_head | apply find_tail | apply find_skip)) (by first | (simp only [List.getElem?_cons_zero, List.getElem?_cons_succ, Value.cells, List.take_zero, List.take_succ_cons, List.take_nil, List.drop_zero, List.drop_succ_cons, List.drop_nil, List.length_cons, List.length_nil, List.cons_append, List.nil_append, List.append_nil, Nat.zero_add, Nat.add_zero, Nat.reduceAdd, Nat.reduceBEq, Nat.reduceEqDiff, Nat.ble, BEq.rfl, Bool.and_true, Bool.and_self, cond_true, beq_self_eq_true]; rfl)) (by first | rfl | (simp; done)) ?_) | refine wl (w_loadRA hl hh rfl trivial agg26 rfl hm1 (by simp) hd1 rfl ?_)
        clear hl a; intro a hl
        refine wl (w_call hl hh rfl trivial rfl cal34 rfl (strata_spec rs rp rc RE hp L hLs.1 hLs.2) (by repeat (first | exact keeps_nil | apply keeps_cons (by repeat (first | exact find_head | apply find_tail | apply find_skip)) (by first  | rfl) | exact keeps_self | exact keeps_left | apply keeps_app | apply keeps_mv | apply keeps_skip)) ⟨mem_keep hh hpre.re, fun r hr => mem_keep hh (hpre.each r hr)⟩ ?_)
        clear hl hh a w; intro vc Fc a w hR hl hh
        obtain ⟨sb, m, hm1, hm2, hm3, rfl, rfl⟩ := hR
        try simp only [List.cons_append, List.nil_append, List.append_assoc, List.append_nil] at hh
        refine wl (w_alloc hl hh rfl trivial zero87 rfl ?_)
        clear hl hh a w; intro k13 a w hl hh
        refine wl (w_store hl hh trivial one87 rfl rfl (by repeat (first | exact find_head | apply find_tail | apply find_skip)) (by first | (simp; done) | (simp; omega)) (by first | rfl | assumption | (apply Row.one; assumption)) (by first | (simp only [setL, List.getElem?_cons_zero, List.getElem?_cons_succ, Value.cells, List.take_zero, List.take_succ_cons, List.take_nil, List.drop_zero, List.drop_succ_cons, List.drop_nil, List.length_cons, List.length_nil, List.cons_append, List.nil_append, List.append_nil, Nat.zero_add, Nat.add_zero, Nat.reduceAdd, Nat.reduceBEq, Nat.reduceEqDiff, Nat.ble, BEq.rfl, Bool.and_true, Bool.and_self, cond_true, beq_self_eq_true]; rfl)) ?_)
        clear hh w; intro w hh
        refine w_nil ?_
        have hl2 := hl.add (t := 1) (hl.add (t := 2) (hl.add (t := 3) (hl.add (t := 13) (hl.nil) rfl) rfl) rfl) rfl; clear hl; have hl := hl2; clear hl2
        refine then_normal ?_
        refine c_seq ?_
        refine c_region ?_
        refine wl (w_alloc hl hh rfl trivial zero33 rfl ?_)
        clear hl hh a w; intro k14 a w hl hh
        refine w_nil ?_
        have hl2 := hl.add (t := 1) (hl.add (t := 2) (hl.add (t := 3) (hl.add (t := 13) (hl.add (t := 14) (hl.nil) rfl) rfl) rfl) rfl) rfl; clear hl; have hl := hl2; clear hl2
        refine then_normal ?_
        refine c_seq ?_
        refine c_seq ?_
        refine c_region ?_
        first | refine wl (w_loadA hl hh rfl trivial agg26 rfl (by repeat (first | exact find_head | apply find_tail | apply find_skip)) (by first | (simp only [List.getElem?_cons_zero, List.getElem?_cons_succ, Value.cells, List.take_zero, List.take_succ_cons, List.take_nil, List.drop_zero, List.drop_succ_cons, List.drop_nil, List.length_cons, List.length_nil, List.cons_append, List.nil_append, List.append_nil, Nat.zero_add, Nat.add_zero, Nat.reduceAdd, Nat.reduceBEq, Nat.reduceEqDiff, Nat.ble, BEq.rfl, Bool.and_true, Bool.and_self, cond_true, beq_self_eq_true]; rfl)) (by first | rfl | (simp; done)) ?_) | refine wl (w_loadRA hl hh rfl trivial agg26 rfl hm1 (by simp) hd1 rfl ?_)
        clear hl a; intro a hl
        refine wl (w_call hl hh rfl trivial rfl cal35 rfl (names_spec rs rp rc RE hp (fun r hr => hTa.t.b r hr)) (by repeat (first | exact keeps_nil | apply keeps_cons (by repeat (first | exact find_head | apply find_tail | apply find_skip)) (by first  | rfl) | exact keeps_self | exact keeps_left | apply keeps_app | apply keeps_mv | apply keeps_skip)) ⟨mem_keep hh hpre.re, fun r hr => mem_keep hh (hpre.each r hr)⟩ ?_)
        clear hl hh a w; intro vc Fc a w hR hl hh
        obtain ⟨ns, np, nc, hN, rfl, hNR⟩ := hR
        try simp only [List.cons_append, List.nil_append, List.append_assoc, List.append_nil] at hh
        generalize Fc = nE at hh hNR
        have hnl := hN.len
        have hnl2 := nmP_len (rs.map RV.ru) (fun r hr => hTa.t.b r hr)
        rw [List.length_map] at hnl2
        replace hh := hh.comm
        simp only [List.cons_append, List.nil_append, List.append_nil, List.append_assoc] at hh
        refine wl (wl_val hl rfl trivial (r_lenS hl rfl slc89) ?_)
        clear hl a; intro a hl
        refine wl (wl_val hl rfl trivial (r_move hl rfl) ?_)
        clear hl a; intro a hl
        refine w_nil ?_
        have hl2 := hl.add (t := 1) (hl.add (t := 2) (hl.add (t := 3) (hl.add (t := 13) (hl.add (t := 14) (hl.add (t := 62) (hl.add (t := 63) (hl.add (t := 64) (hl.nil) rfl) rfl) rfl) rfl) rfl) rfl) rfl) rfl; clear hl; have hl := hl2; clear hl2
        refine then_normal ?_
        refine wp_block ?_
        obtain ⟨KS1, hKS1, hk⟩ := (hl.add (t := 1) (hl.add (t := 2) (hl.add (t := 3) (hl.add (t := 13) (hl.add (t := 14) (hl.add (t := 62) (hl.add (t := 63) (hl.nil) rfl) rfl) rfl) rfl) rfl) rfl) rfl).name
        obtain ⟨HS1, hHS1, hh2⟩ := hh.nameT (A := [(k14, C [.slice none 0 0, .slice none 0 0, .int .i64 (0 : Int)] 33)]) (U := []) (keeps_cons (b := k14) (o' := C [.slice none 0 0, .slice none 0 0, .int .i64 (0 : Int)] 33) (by repeat (first | exact find_head | apply find_tail | apply find_skip)) (by first | rfl) ((by repeat (first | exact keeps_nil | exact keeps_self | exact keeps_left | apply keeps_app | apply keeps_mv | apply keeps_skip))))
        refine c_loop (α := MZ) (fun z => ns.length - z.i) (fun z a w => (z.i ≤ ns.length ∧ Row (.slice z.p ((ns.take z.i).map (pdM ar m)).length z.c) ((ns.take z.i).map (pdM ar m)).length (fl pdc ((ns.take z.i).map (pdM ar m))) 3 93 z.E) ∧ Sl 122 ([(64, .int .i64 (z.i : Int))] ++ KS1) a ∧ Has _ w0 ([(k14, C [.slice z.p ((ns.take z.i).map (pdM ar m)).length z.c, .slice none 0 0, .int .i64 (stMx ((ns.take z.i).map (pdM ar m)) : Int)] 33)] ++ (HS1 ++ z.E)) w) ⟨0, none, 0, []⟩ ⟨⟨Nat.zero_le _, Row.nil _ _⟩, hl.addE (t := 64) (hk) rfl (by first | rfl), hh2⟩ ?_
        clear hk hh2 hl hh a w
        intro z a w hI
        obtain ⟨⟨hzi, hzR⟩, hl, hh⟩ := hI
        subst hKS1; subst hHS1
        simp only [List.cons_append, List.nil_append, List.append_nil, List.append_assoc] at hl hh
        refine c_seq ?_
        refine c_region ?_
        refine wl (wl_val hl rfl trivial (r_lss hl rfl rfl) ?_)
        clear hl a; intro a hl
        refine w_nil ?_
        have hl2 := hl.add (t := 1) (hl.add (t := 2) (hl.add (t := 3) (hl.add (t := 13) (hl.add (t := 14) (hl.add (t := 62) (hl.add (t := 63) (hl.add (t := 64) (hl.add (t := 65) (hl.nil) rfl) rfl) rfl) rfl) rfl) rfl) rfl) rfl) rfl; clear hl; have hl := hl2; clear hl2
        refine then_normal ?_
        refine c_seq ?_
        refine c_cond hl rfl ?_ ?_
        · intro hc4
          try simp only [decide_eq_true_eq, decide_eq_false_iff_not, Bool.not_eq_true', Bool.not_eq_false', Bool.not_eq_true, Bool.not_eq_false, Bool.and_eq_true, Bool.or_eq_true, Bool.and_eq_false_iff, Bool.or_eq_false_iff, Bool.not_not, ne_eq, Int.not_lt, Int.not_le, Decidable.not_not, beq_iff_eq, bne_iff_ne] at hc4
          have hpl8 : ((ns.take z.i).map (pdM ar m)).length = z.i := by rw [List.length_map, List.length_take]; omega
          obtain ⟨nm, hni⟩ : ∃ nm, ns[z.i]? = some nm := ⟨_, List.getElem?_eq_getElem (by omega)⟩
          have hoc := (hN.mem nm).1 (List.mem_of_getElem? hni)
          have hsn := hm2 nm
          have hsL := hLs.2 nm
          obtain ⟨bn, jn, hqn, _, _, hqnE⟩ := row_pos hNR (by omega)
          have hbnm : (bn, C (fl stc ns ++ jn) 9) ∈ nE := by rw [hqnE]; exact List.mem_singleton.2 rfl
          rw [hqn] at hl
          refine wp_skip ?_
          refine then_normal ?_
          refine c_seq ?_
          refine wp_block ?_
          refine c_seq ?_
          refine c_region ?_
          refine wl (wl_val hl rfl trivial (r_indexS hl rfl rfl slc89 (by omega) (by omega) (by first | (simp only [Int.reduceToNat]; rfl) | exact toNat_add1 _ | exact toNat_add2 _ _ | exact toNat_emod _ _ | exact Int.toNat_natCast _ | rfl)) ?_)
          clear hl a; intro a hl
          first | refine wl (w_load hl hh rfl trivial one9 rfl (by repeat (first | exact find_head | apply find_tail | apply find_skip)) (by first | rfl | rfl) ?_) | refine wl (wl_val hl rfl trivial (r_load hl rfl one9 (hh.mem _ _ (by repeat (first | exact hbnm | exact List.mem_append_left _ hbnm | apply List.mem_cons_of_mem | apply List.mem_append_right))) (List.getElem?_toArray.trans (fcS hni jn))) ?_)
          clear hl a; intro a hl
          refine wl (wl_val hl rfl trivial (r_assign hl rfl) ?_)
          clear hl a; intro a hl
          refine w_nil ?_
          have hl2 := hl.add (t := 1) (hl.add (t := 2) (hl.add (t := 3) (hl.add (t := 13) (hl.add (t := 14) (hl.add (t := 16) (hl.add (t := 62) (hl.add (t := 63) (hl.add (t := 64) (hl.nil) rfl) rfl) rfl) rfl) rfl) rfl) rfl) rfl) rfl; clear hl; have hl := hl2; clear hl2
          refine then_normal ?_
          refine c_seq ?_
          refine c_draw [(k14, C [.slice z.p ((ns.take z.i).map (pdM ar m)).length z.c, .slice none 0 0, .int .i64 (stMx ((ns.take z.i).map (pdM ar m)) : Int)] 33), (k1, C [.slice rp rs.length rc] 26), (k13, C [.map (some sb)] 87), (sb, MO kStr m)] [11, 12, 13] mixed hh ?_
          clear hh w; intro w hh
          have hM : Mem [(k14, C [.slice z.p ((ns.take z.i).map (pdM ar m)).length z.c, .slice none 0 0, .int .i64 (stMx ((ns.take z.i).map (pdM ar m)) : Int)] 33), (k1, C [.slice rp rs.length rc] 26), (k13, C [.map (some sb)] 87), (sb, MO kStr m)] w := (by (repeat (first | exact Mem.nil | refine Mem.consR hh (by assumption) (by simp) ?_ | refine Mem.cons hh.mem (by (repeat (first | exact find_head | apply find_tail | apply find_skip)); done) ?_ | fail)); done)
          refine d_take (i := 0) hl rfl (by kernel_rfl) (by kernel_rfl) (by kernel_rfl) (by kernel_rfl) (by kernel_rfl) rfl trivial (fun _ _ _ h => h) hM (fun w hC => r_field hl rfl fld33_0) rfl ?_
          clear hl a; intro a hl
          refine d_take (i := 1) hl rfl (by kernel_rfl) (by kernel_rfl) (by kernel_rfl) (by kernel_rfl) (by kernel_rfl) rfl trivial (fun _ _ _ h => h) hM (fun w hC => r_loadC hl rfl one31 hC (by repeat (first | exact find_head | apply find_tail | apply find_skip)) (by first | rfl | rfl)) rfl ?_
          clear hl a; intro a hl
          refine d_take (i := 2) hl rfl (by kernel_rfl) (by kernel_rfl) (by kernel_rfl) (by kernel_rfl) (by kernel_rfl) rfl trivial (fun _ _ _ h => h) hM (fun w hC => r_move hl rfl) rfl ?_
          clear hl a; intro a hl
          refine d_take (i := 3) hl rfl (by kernel_rfl) (by kernel_rfl) (by kernel_rfl) (by kernel_rfl) (by kernel_rfl) rfl trivial (fun _ _ _ h => h) hM (fun w hC => r_loadCA hl rfl agg26 hC (by repeat (first | exact find_head | apply find_tail | apply find_skip)) (by first | (simp only [List.getElem?_cons_zero, List.getElem?_cons_succ, Value.cells, List.take_zero, List.take_succ_cons, List.take_nil, List.drop_zero, List.drop_succ_cons, List.drop_nil, List.length_cons, List.length_nil, List.cons_append, List.nil_append, List.append_nil, Nat.zero_add, Nat.add_zero, Nat.reduceAdd, Nat.reduceBEq, Nat.reduceEqDiff, Nat.ble, BEq.rfl, Bool.and_true, Bool.and_self, cond_true, beq_self_eq_true]; rfl)) (by first | rfl | (simp; done))) rfl ?_
          clear hl a; intro a hl
          refine d_take (i := 4) hl rfl (by kernel_rfl) (by kernel_rfl) (by kernel_rfl) (by kernel_rfl) (by kernel_rfl) rfl trivial (fun _ _ _ h => h) hM (fun w hC => r_move hl rfl) rfl ?_
          clear hl a; intro a hl
          refine d_take (i := 6) hl rfl (by kernel_rfl) (by kernel_rfl) (by kernel_rfl) (by kernel_rfl) (by kernel_rfl) rfl trivial (fun _ _ _ h => h) hM (fun w hC => r_loadC hl rfl one87 hC (by repeat (first | exact find_head | apply find_tail | apply find_skip)) (by first | rfl | rfl)) rfl ?_
          clear hl a; intro a hl
          refine d_take (i := 7) hl rfl (by kernel_rfl) (by kernel_rfl) (by kernel_rfl) (by kernel_rfl) (by kernel_rfl) rfl trivial (fun _ _ _ h => h) hM (fun w hC => r_move hl rfl) rfl ?_
          clear hl a; intro a hl
          refine d_take (i := 8) hl rfl (by kernel_rfl) (by kernel_rfl) (by kernel_rfl) (by kernel_rfl) (by kernel_rfl) rfl trivial (fun _ _ _ h => h) hM (fun w hC => r_lookup (keyStr Tryz.underlying9) Tryz.underlying87 zero3 hl rfl rfl (hC _ _ (Find.mem (by repeat (first | exact find_head | apply find_tail | apply find_skip))))) rfl ?_
          clear hl a; intro a hl
          rw [sO_get hm1] at hl
          refine d_one (i := 5) (by kernel_rfl) rfl ?_
          try clear hM
          refine id (w_call hl hh rfl trivial rfl cal36 rfl (arity_spec rs rp rc RE hp nm (ar nm) (har nm hoc).1 (har nm hoc).2) (by repeat (first | exact keeps_nil | apply keeps_cons (by repeat (first | exact find_head | apply find_tail | apply find_skip)) (by first  | rfl) | exact keeps_self | exact keeps_left | apply keeps_app | apply keeps_mv | apply keeps_skip)) ⟨mem_keep hh hpre.re, fun r hr => mem_keep hh (hpre.each r hr)⟩ ?_)
          clear hl hh a w; intro vc Fc a w hR hl hh
          obtain ⟨rfl, rfl⟩ := hR
          try simp only [List.cons_append, List.nil_append, List.append_assoc, List.append_nil] at hh
          have hM : Mem [(k14, C [.slice z.p ((ns.take z.i).map (pdM ar m)).length z.c, .slice none 0 0, .int .i64 (stMx ((ns.take z.i).map (pdM ar m)) : Int)] 33), (k1, C [.slice rp rs.length rc] 26), (k13, C [.map (some sb)] 87), (sb, MO kStr m)] w := (by (repeat (first | exact Mem.nil | refine Mem.consR hh (by assumption) (by simp) ?_ | refine Mem.cons hh.mem (by (repeat (first | exact find_head | apply find_tail | apply find_skip)); done) ?_ | fail)); done)
          refine d_step (fun _ => hM) ?_
          refine d_take (i := 9) hl rfl (by kernel_rfl) (by kernel_rfl) (by kernel_rfl) (by kernel_rfl) (by kernel_rfl) rfl trivial (fun _ _ _ h => h) hM (fun w hC => r_build hl rfl zero93 bld93 (by simp only [fillL, setL, List.getElem?_cons_zero, List.getElem?_cons_succ, Value.cells, List.take_zero, List.take_succ_cons, List.take_nil, List.drop_zero, List.drop_succ_cons, List.drop_nil, List.length_cons, List.length_nil, List.cons_append, List.nil_append, List.append_nil, Nat.zero_add, Nat.add_zero, Nat.reduceAdd, Nat.reduceBEq, Nat.reduceEqDiff, Nat.ble, BEq.rfl, Bool.and_true, Bool.and_self, cond_true, beq_self_eq_true]; rfl)) rfl ?_
          clear hl a; intro a hl
          refine d_one (i := 10) (by kernel_rfl) rfl ?_
          try clear hM
          refine id (w_buildSlice hl hh rfl trivial app31 zero93 rfl rfl rfl rfl rfl (by simp only [fillL, arrPl, List.range_succ, List.range_zero, List.map_cons, List.map_nil, List.map_append, List.nil_append, List.replicate_succ, List.replicate_zero, List.flatten_cons, List.flatten_nil, Nat.zero_mul, Nat.mul_one, Nat.one_mul, Nat.reduceMul, setL, List.getElem?_cons_zero, List.getElem?_cons_succ, Value.cells, List.take_zero, List.take_succ_cons, List.take_nil, List.drop_zero, List.drop_succ_cons, List.drop_nil, List.length_cons, List.length_nil, List.cons_append, List.nil_append, List.append_nil, Nat.zero_add, Nat.add_zero, Nat.reduceAdd, Nat.reduceBEq, Nat.reduceEqDiff, Nat.ble, BEq.rfl, Bool.and_true, Bool.and_self, cond_true, beq_self_eq_true]; rfl) ?_)
          clear hl hh a w; intro k78 a w hl hh
          have hM : Mem [(k14, C [.slice z.p ((ns.take z.i).map (pdM ar m)).length z.c, .slice none 0 0, .int .i64 (stMx ((ns.take z.i).map (pdM ar m)) : Int)] 33), (k1, C [.slice rp rs.length rc] 26), (k13, C [.map (some sb)] 87), (sb, MO kStr m)] w := (by (repeat (first | exact Mem.nil | refine Mem.consR hh (by assumption) (by simp) ?_ | refine Mem.cons hh.mem (by (repeat (first | exact find_head | apply find_tail | apply find_skip)); done) ?_ | fail)); done)
          refine d_step (fun _ => hM) ?_
          refine d_one (i := 11) (by kernel_rfl) rfl ?_
          try clear hM
          refine id (w_append (news := [.string nm, .int .i64 (ar nm : Int), .int .i64 (sOf m nm : Int)]) hl hh rfl trivial app31 rfl rfl rfl hzR (by repeat (first | exact keeps_nil | apply keeps_cons (by repeat (first | exact find_head | apply find_tail | apply find_skip)) (by first  | rfl) | exact keeps_self | exact keeps_left | apply keeps_app | apply keeps_mv | apply keeps_skip)) (hh.mem _ _ (Find.mem (by repeat (first | exact find_head | apply find_tail | apply find_skip)))) rfl rfl rfl (by omega) (by omega) (by omega) (by decide) ?_)
          clear hl hh a w; intro rv2 E2 a w hR2 hl hh
          have hh3 := hh.comm; clear hh; have hh := hh3; clear hh3
          try simp only [List.cons_append, List.nil_append, List.append_assoc, List.append_nil] at hh
          refine d_step (fun h => absurd h (by decide)) ?_
          refine d_takeL (i := 12) hl rfl (by kernel_rfl) (by kernel_rfl) (by kernel_rfl) (by kernel_rfl) (by kernel_rfl) rfl trivial (fun _ _ _ h => h) (fun w => r_field hl rfl fld33_0) rfl ?_
          clear hl a; intro a hl
          refine d_one (i := 13) (by kernel_rfl) rfl ?_
          try clear hM
          refine id (w_store hl hh trivial one31 rfl rfl (by repeat (first | exact find_head | apply find_tail | apply find_skip)) (by first | (simp; done) | (simp; omega)) (by first | rfl | assumption | (apply Row.one; assumption)) (by first | (simp only [setL, List.getElem?_cons_zero, List.getElem?_cons_succ, Value.cells, List.take_zero, List.take_succ_cons, List.take_nil, List.drop_zero, List.drop_succ_cons, List.drop_nil, List.length_cons, List.length_nil, List.cons_append, List.nil_append, List.append_nil, Nat.zero_add, Nat.add_zero, Nat.reduceAdd, Nat.reduceBEq, Nat.reduceEqDiff, Nat.ble, BEq.rfl, Bool.and_true, Bool.and_self, cond_true, beq_self_eq_true]; rfl)) ?_)
          clear hh w; intro w hh
          refine d_step (fun h => absurd h (by decide)) ?_
          refine d_done (by kernel_rfl) ?_
          try clear hM
          have hl2 := hl.add (t := 1) (hl.add (t := 2) (hl.add (t := 3) (hl.add (t := 13) (hl.add (t := 14) (hl.add (t := 16) (hl.add (t := 62) (hl.add (t := 63) (hl.add (t := 64) (hl.nil) rfl) rfl) rfl) rfl) rfl) rfl) rfl) rfl) rfl; clear hl; have hl := hl2; clear hl2
          obtain ⟨p6, c6, hv6⟩ := row_val hR2
          rw [hv6] at hh hR2
          have hpl9 : ((ns.take (z.i + 1)).map (pdM ar m)).length = ((ns.take z.i).map (pdM ar m)).length + 1 := by rw [pdM_snoc hni, List.length_append, List.length_singleton]
          refine then_normal ?_
          refine c_seq ?_
          refine c_region ?_
          refine wl (wl_val hl rfl trivial (r_field hl rfl fld33_2) ?_)
          clear hl a; intro a hl
          first | refine wl (w_load hl hh rfl trivial one3 rfl (by repeat (first | exact find_head | apply find_tail | apply find_skip)) (by first | rfl | rfl) ?_) | refine wl (wl_val hl rfl trivial (r_load hl rfl one3 (hh.mem _ _ (by repeat (first | exact hbnm | exact List.mem_append_left _ hbnm | apply List.mem_cons_of_mem | apply List.mem_append_right))) (List.getElem?_toArray.trans (fcS hni jn))) ?_)
          clear hl a; intro a hl
          first | refine wl (w_load hl hh rfl trivial one87 rfl (by repeat (first | exact find_head | apply find_tail | apply find_skip)) (by first | rfl | rfl) ?_) | refine wl (wl_val hl rfl trivial (r_load hl rfl one87 (hh.mem _ _ (by repeat (first | exact hbnm | exact List.mem_append_left _ hbnm | apply List.mem_cons_of_mem | apply List.mem_append_right))) (List.getElem?_toArray.trans (fcS hni jn))) ?_)
          clear hl a; intro a hl
          refine wl (wl_val hl rfl trivial (r_move hl rfl) ?_)
          clear hl a; intro a hl
          refine wl (w_lookup (keyStr Tryz.underlying9) Tryz.underlying87 zero3 hl hh rfl trivial rfl rfl (by repeat (first | exact find_head | apply find_tail | apply find_skip)) ?_)
          clear hl a; intro a hl
          rw [sO_get hm1] at hl
          first | refine wl (wl_val hl rfl trivial (r_add hl rfl rfl (by simp only [Fits]; omega)) ?_) | refine wl (wl_val hl rfl trivial (r_addW hl rfl rfl) ?_)
          clear hl a; intro a hl
          refine wl (wl_val hl rfl trivial (r_lss hl rfl rfl) ?_)
          clear hl a; intro a hl
          refine w_nil ?_
          have hl2 := hl.add (t := 1) (hl.add (t := 2) (hl.add (t := 3) (hl.add (t := 13) (hl.add (t := 14) (hl.add (t := 16) (hl.add (t := 62) (hl.add (t := 63) (hl.add (t := 64) (hl.add (t := 87) (hl.nil) rfl) rfl) rfl) rfl) rfl) rfl) rfl) rfl) rfl) rfl; clear hl; have hl := hl2; clear hl2
          refine then_normal ?_
          refine c_cond hl rfl ?_ ?_
          · intro hc5
            try simp only [decide_eq_true_eq, decide_eq_false_iff_not, Bool.not_eq_true', Bool.not_eq_false', Bool.not_eq_true, Bool.not_eq_false, Bool.and_eq_true, Bool.or_eq_true, Bool.and_eq_false_iff, Bool.or_eq_false_iff, Bool.not_not, ne_eq, Int.not_lt, Int.not_le, Decidable.not_not, beq_iff_eq, bne_iff_ne] at hc5
            have hs9 : stMx ((ns.take (z.i + 1)).map (pdM ar m)) = sOf m nm + 1 := by rw [stMx_pd hni]; omega
            refine c_region ?_
            first | refine wl (w_load hl hh rfl trivial one87 rfl (by repeat (first | exact find_head | apply find_tail | apply find_skip)) (by first | rfl | rfl) ?_) | refine wl (wl_val hl rfl trivial (r_load hl rfl one87 (hh.mem _ _ (by repeat (first | exact hbnm | exact List.mem_append_left _ hbnm | apply List.mem_cons_of_mem | apply List.mem_append_right))) (List.getElem?_toArray.trans (fcS hni jn))) ?_)
            clear hl a; intro a hl
            refine wl (wl_val hl rfl trivial (r_move hl rfl) ?_)
            clear hl a; intro a hl
            refine wl (w_lookup (keyStr Tryz.underlying9) Tryz.underlying87 zero3 hl hh rfl trivial rfl rfl (by repeat (first | exact find_head | apply find_tail | apply find_skip)) ?_)
            clear hl a; intro a hl
            rw [sO_get hm1] at hl
            first | refine wl (wl_val hl rfl trivial (r_add hl rfl rfl (by simp only [Fits]; omega)) ?_) | refine wl (wl_val hl rfl trivial (r_addW hl rfl rfl) ?_)
            clear hl a; intro a hl
            refine wl (wl_val hl rfl trivial (r_field hl rfl fld33_2) ?_)
            clear hl a; intro a hl
            refine wl (w_store hl hh trivial one3 rfl rfl (by repeat (first | exact find_head | apply find_tail | apply find_skip)) (by first | (simp; done) | (simp; omega)) (by first | rfl | assumption | (apply Row.one; assumption)) (by first | (simp only [setL, List.getElem?_cons_zero, List.getElem?_cons_succ, Value.cells, List.take_zero, List.take_succ_cons, List.take_nil, List.drop_zero, List.drop_succ_cons, List.drop_nil, List.length_cons, List.length_nil, List.cons_append, List.nil_append, List.append_nil, Nat.zero_add, Nat.add_zero, Nat.reduceAdd, Nat.reduceBEq, Nat.reduceEqDiff, Nat.ble, BEq.rfl, Bool.and_true, Bool.and_self, cond_true, beq_self_eq_true]; rfl)) ?_)
            clear hh w; intro w hh
            refine w_nil ?_
            have hl2 := hl.add (t := 1) (hl.add (t := 2) (hl.add (t := 3) (hl.add (t := 13) (hl.add (t := 14) (hl.add (t := 62) (hl.add (t := 63) (hl.add (t := 64) (hl.nil) rfl) rfl) rfl) rfl) rfl) rfl) rfl) rfl; clear hl; have hl := hl2; clear hl2
            refine blk_normal ?_
            refine then_normal ?_
            refine c_region ?_
            first | refine wl (wl_val hl rfl trivial (r_add hl rfl rfl (by simp only [Fits]; omega)) ?_) | refine wl (wl_val hl rfl trivial (r_addW hl rfl rfl) ?_)
            clear hl a; intro a hl
            refine wl (wl_val hl rfl trivial (r_move hl rfl) ?_)
            clear hl a; intro a hl
            refine w_nil ?_
            have hl2 := hl.add (t := 1) (hl.add (t := 2) (hl.add (t := 3) (hl.add (t := 13) (hl.add (t := 14) (hl.add (t := 62) (hl.add (t := 63) (hl.add (t := 64) (hl.nil) rfl) rfl) rfl) rfl) rfl) rfl) rfl) rfl; clear hl; have hl := hl2; clear hl2
            refine then_normal ?_
            refine ⟨⟨z.i + 1, p6, c6, E2⟩, (by simp only; omega), ⟨by simp only; omega, by simp only; rw [pdM_snoc hni, fl_app, fl_sing, List.length_append, List.length_singleton]; exact hR2⟩, hl.addE (t := 64) (hl.addE (t := 1) (hl.addE (t := 2) (hl.addE (t := 3) (hl.addE (t := 13) (hl.addE (t := 14) (hl.addE (t := 62) (hl.addE (t := 63) (hl.nil) rfl (by first | rfl | exact congrArg (Value.int .i64) (show (z.i : Int) + 1 = ((z.i + 1 : Nat) : Int) by omega) | (rw [hqn]))) rfl (by first | rfl | exact congrArg (Value.int .i64) (show (z.i : Int) + 1 = ((z.i + 1 : Nat) : Int) by omega) | (rw [hqn]))) rfl (by first | rfl | exact congrArg (Value.int .i64) (show (z.i : Int) + 1 = ((z.i + 1 : Nat) : Int) by omega) | (rw [hqn]))) rfl (by first | rfl | exact congrArg (Value.int .i64) (show (z.i : Int) + 1 = ((z.i + 1 : Nat) : Int) by omega) | (rw [hqn]))) rfl (by first | rfl | exact congrArg (Value.int .i64) (show (z.i : Int) + 1 = ((z.i + 1 : Nat) : Int) by omega) | (rw [hqn]))) rfl (by first | rfl | exact congrArg (Value.int .i64) (show (z.i : Int) + 1 = ((z.i + 1 : Nat) : Int) by omega) | (rw [hqn]))) rfl (by first | rfl | exact congrArg (Value.int .i64) (show (z.i : Int) + 1 = ((z.i + 1 : Nat) : Int) by omega) | (rw [hqn]))) rfl (by first | rfl | exact congrArg (Value.int .i64) (show (z.i : Int) + 1 = ((z.i + 1 : Nat) : Int) by omega) | (rw [hqn])), hh.keep (by repeat (first | exact keeps_nil | apply keeps_cons (by repeat (first | exact find_head | apply find_tail | apply find_skip)) (by first  | (simp only; rw [hs9, hpl9]; done) | (simp only; rw [hs9, hpl9]; rfl) | rfl) | exact keeps_self | exact keeps_left | apply keeps_app | apply keeps_mv | apply keeps_skip))⟩
          · intro hc5
            try simp only [decide_eq_true_eq, decide_eq_false_iff_not, Bool.not_eq_true', Bool.not_eq_false', Bool.not_eq_true, Bool.not_eq_false, Bool.and_eq_true, Bool.or_eq_true, Bool.and_eq_false_iff, Bool.or_eq_false_iff, Bool.not_not, ne_eq, Int.not_lt, Int.not_le, Decidable.not_not, beq_iff_eq, bne_iff_ne] at hc5
            have hs9 : stMx ((ns.take (z.i + 1)).map (pdM ar m)) = stMx ((ns.take z.i).map (pdM ar m)) := by rw [stMx_pd hni]; omega
            refine wp_skip ?_
            refine blk_normal ?_
            refine then_normal ?_
            refine c_region ?_
            first | refine wl (wl_val hl rfl trivial (r_add hl rfl rfl (by simp only [Fits]; omega)) ?_) | refine wl (wl_val hl rfl trivial (r_addW hl rfl rfl) ?_)
            clear hl a; intro a hl
            refine wl (wl_val hl rfl trivial (r_move hl rfl) ?_)
            clear hl a; intro a hl
            refine w_nil ?_
            have hl2 := hl.add (t := 1) (hl.add (t := 2) (hl.add (t := 3) (hl.add (t := 13) (hl.add (t := 14) (hl.add (t := 62) (hl.add (t := 63) (hl.add (t := 64) (hl.nil) rfl) rfl) rfl) rfl) rfl) rfl) rfl) rfl; clear hl; have hl := hl2; clear hl2
            refine then_normal ?_
            refine ⟨⟨z.i + 1, p6, c6, E2⟩, (by simp only; omega), ⟨by simp only; omega, by simp only; rw [pdM_snoc hni, fl_app, fl_sing, List.length_append, List.length_singleton]; exact hR2⟩, hl.addE (t := 64) (hl.addE (t := 1) (hl.addE (t := 2) (hl.addE (t := 3) (hl.addE (t := 13) (hl.addE (t := 14) (hl.addE (t := 62) (hl.addE (t := 63) (hl.nil) rfl (by first | rfl | exact congrArg (Value.int .i64) (show (z.i : Int) + 1 = ((z.i + 1 : Nat) : Int) by omega) | (rw [hqn]))) rfl (by first | rfl | exact congrArg (Value.int .i64) (show (z.i : Int) + 1 = ((z.i + 1 : Nat) : Int) by omega) | (rw [hqn]))) rfl (by first | rfl | exact congrArg (Value.int .i64) (show (z.i : Int) + 1 = ((z.i + 1 : Nat) : Int) by omega) | (rw [hqn]))) rfl (by first | rfl | exact congrArg (Value.int .i64) (show (z.i : Int) + 1 = ((z.i + 1 : Nat) : Int) by omega) | (rw [hqn]))) rfl (by first | rfl | exact congrArg (Value.int .i64) (show (z.i : Int) + 1 = ((z.i + 1 : Nat) : Int) by omega) | (rw [hqn]))) rfl (by first | rfl | exact congrArg (Value.int .i64) (show (z.i : Int) + 1 = ((z.i + 1 : Nat) : Int) by omega) | (rw [hqn]))) rfl (by first | rfl | exact congrArg (Value.int .i64) (show (z.i : Int) + 1 = ((z.i + 1 : Nat) : Int) by omega) | (rw [hqn]))) rfl (by first | rfl | exact congrArg (Value.int .i64) (show (z.i : Int) + 1 = ((z.i + 1 : Nat) : Int) by omega) | (rw [hqn])), hh.keep (by repeat (first | exact keeps_nil | apply keeps_cons (by repeat (first | exact find_head | apply find_tail | apply find_skip)) (by first  | (simp only; rw [hs9, hpl9]; done) | (simp only; rw [hs9, hpl9]; rfl) | rfl) | exact keeps_self | exact keeps_left | apply keeps_app | apply keeps_mv | apply keeps_skip))⟩
        · intro hc4
          try simp only [decide_eq_true_eq, decide_eq_false_iff_not, Bool.not_eq_true', Bool.not_eq_false', Bool.not_eq_true, Bool.not_eq_false, Bool.and_eq_true, Bool.or_eq_true, Bool.and_eq_false_iff, Bool.or_eq_false_iff, Bool.not_not, ne_eq, Int.not_lt, Int.not_le, Decidable.not_not, beq_iff_eq, bne_iff_ne] at hc4
          have hze : z.i = ns.length := by omega
          rw [hze, List.take_length] at hh hzR
          refine wp_exit ?_
          refine then_exit ?_
          refine then_exit ?_
          refine blk_exit ?_
          refine then_normal ?_
          refine c_seq ?_
          refine c_seq ?_
          refine c_region ?_
          refine wl (wl_val hl rfl trivial (r_field hl rfl fld26_0) ?_)
          clear hl a; intro a hl
          first | refine wl (w_load hl hh rfl trivial one24 rfl (by repeat (first | exact find_head | apply find_tail | apply find_skip)) (by first | rfl | rfl) ?_) | refine wl (wl_val hl rfl trivial (r_load hl rfl one24 (hh.mem _ _ (by repeat (first | exact hbnm | exact List.mem_append_left _ hbnm | apply List.mem_cons_of_mem | apply List.mem_append_right))) (List.getElem?_toArray.trans (fcS hni jn))) ?_)
          clear hl a; intro a hl
          refine wl (wl_val hl rfl trivial (r_lenS hl rfl slc24) ?_)
          clear hl a; intro a hl
          refine wl (wl_val hl rfl trivial (r_move hl rfl) ?_)
          clear hl a; intro a hl
          refine w_nil ?_
          have hl2 := hl.add (t := 2) (hl.add (t := 3) (hl.add (t := 13) (hl.add (t := 14) (hl.add (t := 95) (hl.add (t := 96) (hl.add (t := 97) (hl.nil) rfl) rfl) rfl) rfl) rfl) rfl) rfl; clear hl; have hl := hl2; clear hl2
          refine then_normal ?_
          refine wp_block ?_
          obtain ⟨KS2, hKS2, hk⟩ := (hl.add (t := 2) (hl.add (t := 3) (hl.add (t := 13) (hl.add (t := 14) (hl.add (t := 95) (hl.add (t := 96) (hl.nil) rfl) rfl) rfl) rfl) rfl) rfl).name
          obtain ⟨HS2, hHS2, hh2⟩ := hh.nameT (A := [(k14, C [.slice z.p (ns.map (pdM ar m)).length z.c, .slice none 0 0, .int .i64 (stMx (ns.map (pdM ar m)) : Int)] 33)]) (U := []) (keeps_cons (b := k14) (o' := C [.slice z.p (ns.map (pdM ar m)).length z.c, .slice none 0 0, .int .i64 (stMx (ns.map (pdM ar m)) : Int)] 33) (by repeat (first | exact find_head | apply find_tail | apply find_skip)) (by first | rfl) ((by repeat (first | exact keeps_nil | exact keeps_self | exact keeps_left | apply keeps_app | apply keeps_mv | apply keeps_skip))))
          refine c_loop (α := PZ) (fun y => rs.length - y.i) (fun y a w => (MRI (rs.map RV.ru) y ∧ Row (.slice y.p y.out.length y.c) y.out.length (fl RV.c3 y.out) 3 57 y.E) ∧ Sl 122 ([(97, .int .i64 (y.i : Int))] ++ KS2) a ∧ Has _ w0 ([(k14, C [.slice z.p (ns.map (pdM ar m)).length z.c, .slice y.p y.out.length y.c, .int .i64 (stMx (ns.map (pdM ar m)) : Int)] 33)] ++ (HS2 ++ PZ.T y)) w) ⟨0, [], none, 0, []⟩ ⟨⟨⟨Nat.zero_le _, Nat.le_refl _, fun q h => (by cases h), List.Pairwise.nil, fun x => ⟨fun h => (by cases h), fun ⟨r, h, _⟩ => (by cases h)⟩⟩, Row.nil _ _⟩, hl.addE (t := 97) (hk) rfl (by first | rfl), (by simp only [PZ.T]; exact hh2)⟩ ?_
          clear hk hh2 hl hh a w
          intro y a w hI
          obtain ⟨⟨hy, hyR⟩, hl, hh⟩ := hI
          subst hKS2; subst hHS2
          simp only [List.cons_append, List.nil_append, List.append_nil, List.append_assoc] at hl hh
          simp only [PZ.T] at hh
          have hyi := hy.i; have hyn := hy.n
          rw [List.length_map] at hyi
          refine c_seq ?_
          refine c_region ?_
          refine wl (wl_val hl rfl trivial (r_lss hl rfl rfl) ?_)
          clear hl a; intro a hl
          refine w_nil ?_
          have hl2 := hl.add (t := 2) (hl.add (t := 3) (hl.add (t := 13) (hl.add (t := 14) (hl.add (t := 95) (hl.add (t := 96) (hl.add (t := 97) (hl.add (t := 98) (hl.nil) rfl) rfl) rfl) rfl) rfl) rfl) rfl) rfl; clear hl; have hl := hl2; clear hl2
          refine then_normal ?_
          refine c_seq ?_
          refine c_cond hl rfl ?_ ?_
          · intro hc6
            try simp only [decide_eq_true_eq, decide_eq_false_iff_not, Bool.not_eq_true', Bool.not_eq_false', Bool.not_eq_true, Bool.not_eq_false, Bool.and_eq_true, Bool.or_eq_true, Bool.and_eq_false_iff, Bool.or_eq_false_iff, Bool.not_not, ne_eq, Int.not_lt, Int.not_le, Decidable.not_not, beq_iff_eq, bne_iff_ne] at hc6
            obtain ⟨r, hr⟩ : ∃ r, rs[y.i]? = some r := ⟨_, List.getElem?_eq_getElem (by omega)⟩
            have hrm := List.mem_of_getElem? hr
            have hro := hp.ok r hrm
            obtain ⟨b1, j1, hq1, hE1, hm1⟩ := row_mem hp.row (by omega) hpre.re
            have hd1 := fl_at c3_len hr j1
            simp only [RV.c3] at hd1
            have hrE := hpre.each r hrm
            rw [hq1] at hl hh
            refine wp_skip ?_
            refine then_normal ?_
            refine c_seq ?_
            refine wp_block ?_
            refine c_seq ?_
            refine c_region ?_
            refine wl (wl_val hl rfl trivial (r_indexS hl rfl rfl slc24 (by omega) (by omega) (by first | (simp only [Int.reduceToNat]; rfl) | exact toNat_add1 _ | exact toNat_add2 _ _ | exact toNat_emod _ _ | exact Int.toNat_natCast _ | rfl)) ?_)
            clear hl a; intro a hl
            first | refine wl (w_loadA hl hh rfl trivial agg57 rfl (by repeat (first | exact find_head | apply find_tail | apply find_skip)) (by first | (simp only [List.getElem?_cons_zero, List.getElem?_cons_succ, Value.cells, List.take_zero, List.take_succ_cons, List.take_nil, List.drop_zero, List.drop_succ_cons, List.drop_nil, List.length_cons, List.length_nil, List.cons_append, List.nil_append, List.append_nil, Nat.zero_add, Nat.add_zero, Nat.reduceAdd, Nat.reduceBEq, Nat.reduceEqDiff, Nat.ble, BEq.rfl, Bool.and_true, Bool.and_self, cond_true, beq_self_eq_true]; rfl)) (by first | rfl | (simp; done)) ?_) | refine wl (w_loadRA hl hh rfl trivial agg57 rfl hm1 (by simp) hd1 rfl ?_)
            clear hl a; intro a hl
            refine wl (w_alloc hl hh rfl trivial zero57 rfl ?_)
            clear hl hh a w; intro k18 a w hl hh
            refine wl (w_storeA hl hh trivial agg57 rfl rfl (by repeat (first | exact find_head | apply find_tail | apply find_skip)) (by first | rfl | (simp; done)) (by first | (simp; done) | (simp; omega)) (by first | rfl | (simp; done) | rfl) (by first | (simp only [setL, List.getElem?_cons_zero, List.getElem?_cons_succ, Value.cells, List.take_zero, List.take_succ_cons, List.take_nil, List.drop_zero, List.drop_succ_cons, List.drop_nil, List.length_cons, List.length_nil, List.cons_append, List.nil_append, List.append_nil, Nat.zero_add, Nat.add_zero, Nat.reduceAdd, Nat.reduceBEq, Nat.reduceEqDiff, Nat.ble, BEq.rfl, Bool.and_true, Bool.and_self, cond_true, beq_self_eq_true]; rfl)) ?_)
            clear hh w; intro w hh
            refine w_nil ?_
            have hl2 := hl.add (t := 2) (hl.add (t := 3) (hl.add (t := 13) (hl.add (t := 14) (hl.add (t := 18) (hl.add (t := 95) (hl.add (t := 96) (hl.add (t := 97) (hl.nil) rfl) rfl) rfl) rfl) rfl) rfl) rfl) rfl; clear hl; have hl := hl2; clear hl2
            refine then_normal ?_
            refine c_seq ?_
            refine c_region ?_
            first | refine wl (w_loadA hl hh rfl trivial agg57 rfl (by repeat (first | exact find_head | apply find_tail | apply find_skip)) (by first | (simp only [List.getElem?_cons_zero, List.getElem?_cons_succ, Value.cells, List.take_zero, List.take_succ_cons, List.take_nil, List.drop_zero, List.drop_succ_cons, List.drop_nil, List.length_cons, List.length_nil, List.cons_append, List.nil_append, List.append_nil, Nat.zero_add, Nat.add_zero, Nat.reduceAdd, Nat.reduceBEq, Nat.reduceEqDiff, Nat.ble, BEq.rfl, Bool.and_true, Bool.and_self, cond_true, beq_self_eq_true]; rfl)) (by first | rfl | (simp; done)) ?_) | refine wl (w_loadRA hl hh rfl trivial agg57 rfl hm1 (by simp) hd1 rfl ?_)
            clear hl a; intro a hl
            refine wl (w_call hl hh rfl trivial rfl cal37 rfl (canM_spec r hro (h5 r hrm)) (by repeat (first | exact keeps_nil | apply keeps_cons (by repeat (first | exact find_head | apply find_tail | apply find_skip)) (by first  | rfl) | exact keeps_self | exact keeps_left | apply keeps_app | apply keeps_mv | apply keeps_skip)) (mem_keep hh hrE) ?_)
            clear hl hh a w; intro vc Fc a w hR hl hh
            obtain ⟨q, ⟨hqo, hq4⟩, hqc, rfl, rfl⟩ := hR
            try simp only [List.cons_append, List.nil_append, List.append_assoc, List.append_nil] at hh
            have hcn : canR r.ru = some q.ru := by
              obtain ⟨q9, h9⟩ := can_small (r := r.ru) (by show (r.ls.map LV.l).length ≤ 5; rw [List.length_map]; exact h5 r hrm)
              rw [hqc q9 h9]; exact h9
            replace hh := hh.comm
            simp only [List.cons_append, List.nil_append, List.append_nil, List.append_assoc] at hh
            refine wl (w_alloc hl hh rfl trivial zero57 rfl ?_)
            clear hl hh a w; intro k19 a w hl hh
            refine wl (w_storeA hl hh trivial agg57 rfl rfl (by repeat (first | exact find_head | apply find_tail | apply find_skip)) (by first | rfl | (simp; done)) (by first | (simp; done) | (simp; omega)) (by first | rfl | (simp; done) | rfl) (by first | (simp only [setL, List.getElem?_cons_zero, List.getElem?_cons_succ, Value.cells, List.take_zero, List.take_succ_cons, List.take_nil, List.drop_zero, List.drop_succ_cons, List.drop_nil, List.length_cons, List.length_nil, List.cons_append, List.nil_append, List.append_nil, Nat.zero_add, Nat.add_zero, Nat.reduceAdd, Nat.reduceBEq, Nat.reduceEqDiff, Nat.ble, BEq.rfl, Bool.and_true, Bool.and_self, cond_true, beq_self_eq_true]; rfl)) ?_)
            clear hh w; intro w hh
            refine w_nil ?_
            have hl2 := hl.add (t := 2) (hl.add (t := 3) (hl.add (t := 13) (hl.add (t := 14) (hl.add (t := 19) (hl.add (t := 95) (hl.add (t := 96) (hl.add (t := 97) (hl.nil) rfl) rfl) rfl) rfl) rfl) rfl) rfl) rfl; clear hl; have hl := hl2; clear hl2
            refine then_normal ?_
            refine c_seq ?_
            refine c_region ?_
            refine wl (wl_val hl rfl trivial (r_field hl rfl fld33_1) ?_)
            clear hl a; intro a hl
            first | refine wl (w_load hl hh rfl trivial one24 rfl (by repeat (first | exact find_head | apply find_tail | apply find_skip)) (by first | rfl | rfl) ?_) | refine wl (wl_val hl rfl trivial (r_load hl rfl one24 (hh.mem _ _ (by repeat (first | exact hbnm | exact List.mem_append_left _ hbnm | apply List.mem_cons_of_mem | apply List.mem_append_right))) (List.getElem?_toArray.trans (fcS hni jn))) ?_)
            clear hl a; intro a hl
            refine wl (wl_val hl rfl trivial (r_makeFunc hl rfl) ?_)
            clear hl a; intro a hl
            refine wl (w_call hl hh rfl trivial rfl cal38 rfl (has_spec k19 q hqo hq4 y.out y.p y.c y.E hyR hy.ok (by omega)) (by repeat (first | exact keeps_nil | apply keeps_cons (by repeat (first | exact find_head | apply find_tail | apply find_skip)) (by first  | rfl) | exact keeps_self | exact keeps_left | apply keeps_app | apply keeps_mv | apply keeps_skip)) ⟨⟨hh.mem _ _ (Find.mem (by repeat (first | exact find_head | apply find_tail | apply find_skip))), memK hh (by repeat (first | exact keeps_nil | apply keeps_cons (by repeat (first | exact find_head | apply find_tail | apply find_skip)) (by first  | rfl) | exact keeps_self | exact keeps_left | apply keeps_app | apply keeps_mv | apply keeps_skip))⟩, memK hh (by repeat (first | exact keeps_nil | apply keeps_cons (by repeat (first | exact find_head | apply find_tail | apply find_skip)) (by first  | rfl) | exact keeps_self | exact keeps_left | apply keeps_app | apply keeps_mv | apply keeps_skip)), fun x hx => memK2 hh (by repeat (first | exact keeps_nil | apply keeps_cons (by repeat (first | exact find_head | apply find_tail | apply find_skip)) (by first  | rfl) | exact keeps_self | exact keeps_left | apply keeps_app | apply keeps_mv | apply keeps_skip)) hx⟩ ?_)
            clear hl hh a w; intro vc Fc a w hR hl hh
            obtain ⟨rfl, rfl⟩ := hR
            try simp only [List.cons_append, List.nil_append, List.append_assoc, List.append_nil] at hh
            refine wl (wl_val hl rfl trivial (r_not hl rfl) ?_)
            clear hl a; intro a hl
            refine w_nil ?_
            have hl2 := hl.add (t := 2) (hl.add (t := 3) (hl.add (t := 13) (hl.add (t := 14) (hl.add (t := 19) (hl.add (t := 95) (hl.add (t := 96) (hl.add (t := 97) (hl.add (t := 107) (hl.nil) rfl) rfl) rfl) rfl) rfl) rfl) rfl) rfl) rfl; clear hl; have hl := hl2; clear hl2
            refine then_normal ?_
            refine c_cond hl rfl ?_ ?_
            · intro hc7
              try simp only [decide_eq_true_eq, decide_eq_false_iff_not, Bool.not_eq_true', Bool.not_eq_false', Bool.not_eq_true, Bool.not_eq_false, Bool.and_eq_true, Bool.or_eq_true, Bool.and_eq_false_iff, Bool.or_eq_false_iff, Bool.not_not, ne_eq, Int.not_lt, Int.not_le, Decidable.not_not, beq_iff_eq, bne_iff_ne] at hc7
              have hin9 : q.ru ∉ y.out.map RV.ru := by simpa using hc7
              refine c_region ?_
              refine wl (wl_val hl rfl trivial (r_field hl rfl fld33_1) ?_)
              clear hl a; intro a hl
              first | refine wl (w_load hl hh rfl trivial one24 rfl (by repeat (first | exact find_head | apply find_tail | apply find_skip)) (by first | rfl | rfl) ?_) | refine wl (wl_val hl rfl trivial (r_load hl rfl one24 (hh.mem _ _ (by repeat (first | exact hbnm | exact List.mem_append_left _ hbnm | apply List.mem_cons_of_mem | apply List.mem_append_right))) (List.getElem?_toArray.trans (fcS hni jn))) ?_)
              clear hl a; intro a hl
              first | refine wl (w_loadA hl hh rfl trivial agg57 rfl (by repeat (first | exact find_head | apply find_tail | apply find_skip)) (by first | (simp only [List.getElem?_cons_zero, List.getElem?_cons_succ, Value.cells, List.take_zero, List.take_succ_cons, List.take_nil, List.drop_zero, List.drop_succ_cons, List.drop_nil, List.length_cons, List.length_nil, List.cons_append, List.nil_append, List.append_nil, Nat.zero_add, Nat.add_zero, Nat.reduceAdd, Nat.reduceBEq, Nat.reduceEqDiff, Nat.ble, BEq.rfl, Bool.and_true, Bool.and_self, cond_true, beq_self_eq_true]; rfl)) (by first | rfl | (simp; done)) ?_) | refine wl (w_loadRA hl hh rfl trivial agg57 rfl hm1 (by simp) hd1 rfl ?_)
              clear hl a; intro a hl
              refine wl (w_buildSlice hl hh rfl trivial app24 zero57 rfl rfl rfl rfl rfl (by simp only [fillL, arrPl, List.range_succ, List.range_zero, List.map_cons, List.map_nil, List.map_append, List.nil_append, List.replicate_succ, List.replicate_zero, List.flatten_cons, List.flatten_nil, Nat.zero_mul, Nat.mul_one, Nat.one_mul, Nat.reduceMul, setL, List.getElem?_cons_zero, List.getElem?_cons_succ, Value.cells, List.take_zero, List.take_succ_cons, List.take_nil, List.drop_zero, List.drop_succ_cons, List.drop_nil, List.length_cons, List.length_nil, List.cons_append, List.nil_append, List.append_nil, Nat.zero_add, Nat.add_zero, Nat.reduceAdd, Nat.reduceBEq, Nat.reduceEqDiff, Nat.ble, BEq.rfl, Bool.and_true, Bool.and_self, cond_true, beq_self_eq_true]; rfl) ?_)
              clear hl hh a w; intro k111 a w hl hh
              refine wl (w_append (news := [.string q.p, .slice q.hp q.a.length q.hc, .slice q.bp q.ls.length q.bc]) hl hh rfl trivial app24 rfl rfl rfl hyR (by repeat (first | exact keeps_nil | apply keeps_cons (by repeat (first | exact find_head | apply find_tail | apply find_skip)) (by first  | rfl) | exact keeps_self | exact keeps_left | apply keeps_app | apply keeps_mv | apply keeps_skip)) (hh.mem _ _ (Find.mem (by repeat (first | exact find_head | apply find_tail | apply find_skip)))) rfl rfl rfl (by omega) (by omega) (by omega) (by decide) ?_)
              clear hl hh a w; intro rv2 E2 a w hR2 hl hh
              have hh3 := hh.comm; clear hh; have hh := hh3; clear hh3
              try simp only [List.cons_append, List.nil_append, List.append_assoc, List.append_nil] at hh
              refine wl (wl_val hl rfl trivial (r_field hl rfl fld33_1) ?_)
              clear hl a; intro a hl
              refine wl (w_store hl hh trivial one24 rfl rfl (by repeat (first | exact find_head | apply find_tail | apply find_skip)) (by first | (simp; done) | (simp; omega)) (by first | rfl | assumption | (apply Row.one; assumption)) (by first | (simp only [setL, List.getElem?_cons_zero, List.getElem?_cons_succ, Value.cells, List.take_zero, List.take_succ_cons, List.take_nil, List.drop_zero, List.drop_succ_cons, List.drop_nil, List.length_cons, List.length_nil, List.cons_append, List.nil_append, List.append_nil, Nat.zero_add, Nat.add_zero, Nat.reduceAdd, Nat.reduceBEq, Nat.reduceEqDiff, Nat.ble, BEq.rfl, Bool.and_true, Bool.and_self, cond_true, beq_self_eq_true]; rfl)) ?_)
              clear hh w; intro w hh
              refine w_nil ?_
              have hl2 := hl.add (t := 2) (hl.add (t := 3) (hl.add (t := 13) (hl.add (t := 14) (hl.add (t := 95) (hl.add (t := 96) (hl.add (t := 97) (hl.nil) rfl) rfl) rfl) rfl) rfl) rfl) rfl; clear hl; have hl := hl2; clear hl2
              obtain ⟨p6, c6, hv6⟩ := row_val hR2
              rw [hv6] at hh hR2
              refine blk_normal ?_
              refine then_normal ?_
              refine c_region ?_
              first | refine wl (wl_val hl rfl trivial (r_add hl rfl rfl (by simp only [Fits]; omega)) ?_) | refine wl (wl_val hl rfl trivial (r_addW hl rfl rfl) ?_)
              clear hl a; intro a hl
              refine wl (wl_val hl rfl trivial (r_move hl rfl) ?_)
              clear hl a; intro a hl
              refine w_nil ?_
              have hl2 := hl.add (t := 2) (hl.add (t := 3) (hl.add (t := 13) (hl.add (t := 14) (hl.add (t := 95) (hl.add (t := 96) (hl.add (t := 97) (hl.nil) rfl) rfl) rfl) rfl) rfl) rfl) rfl; clear hl; have hl := hl2; clear hl2
              refine then_normal ?_
              rw [← hq1] at hh
              refine ⟨⟨y.i + 1, y.out ++ [q], p6, c6, E2⟩, (by simp only; omega), ⟨hy.new (ru_at hr) hcn hqo hq4 hin9 _ _ _, by simp only [List.length_append, List.length_singleton]; rw [fl_app, fl_sing]; exact hR2⟩, hl.addE (t := 97) (hl.addE (t := 2) (hl.addE (t := 3) (hl.addE (t := 13) (hl.addE (t := 14) (hl.addE (t := 95) (hl.addE (t := 96) (hl.nil) rfl (by first | rfl | exact congrArg (Value.int .i64) (show (y.i : Int) + 1 = ((y.i + 1 : Nat) : Int) by omega) | (rw [hq1]))) rfl (by first | rfl | exact congrArg (Value.int .i64) (show (y.i : Int) + 1 = ((y.i + 1 : Nat) : Int) by omega) | (rw [hq1]))) rfl (by first | rfl | exact congrArg (Value.int .i64) (show (y.i : Int) + 1 = ((y.i + 1 : Nat) : Int) by omega) | (rw [hq1]))) rfl (by first | rfl | exact congrArg (Value.int .i64) (show (y.i : Int) + 1 = ((y.i + 1 : Nat) : Int) by omega) | (rw [hq1]))) rfl (by first | rfl | exact congrArg (Value.int .i64) (show (y.i : Int) + 1 = ((y.i + 1 : Nat) : Int) by omega) | (rw [hq1]))) rfl (by first | rfl | exact congrArg (Value.int .i64) (show (y.i : Int) + 1 = ((y.i + 1 : Nat) : Int) by omega) | (rw [hq1]))) rfl (by first | rfl | exact congrArg (Value.int .i64) (show (y.i : Int) + 1 = ((y.i + 1 : Nat) : Int) by omega) | (rw [hq1])), (by simp only [PZ.T, fmR_snocZ, List.length_append, List.length_singleton, List.append_assoc]; exact hh.keep (by repeat (first | exact keeps_nil | apply keeps_cons (by repeat (first | exact find_head | apply find_tail | apply find_skip)) (by first  | rfl) | exact keeps_self | exact keeps_left | apply keeps_app | apply keeps_mv | apply keeps_skip)))⟩
            · intro hc7
              try simp only [decide_eq_true_eq, decide_eq_false_iff_not, Bool.not_eq_true', Bool.not_eq_false', Bool.not_eq_true, Bool.not_eq_false, Bool.and_eq_true, Bool.or_eq_true, Bool.and_eq_false_iff, Bool.or_eq_false_iff, Bool.not_not, ne_eq, Int.not_lt, Int.not_le, Decidable.not_not, beq_iff_eq, bne_iff_ne] at hc7
              have hin9 : q.ru ∈ y.out.map RV.ru := by simpa using hc7
              refine wp_skip ?_
              refine blk_normal ?_
              refine then_normal ?_
              refine c_region ?_
              first | refine wl (wl_val hl rfl trivial (r_add hl rfl rfl (by simp only [Fits]; omega)) ?_) | refine wl (wl_val hl rfl trivial (r_addW hl rfl rfl) ?_)
              clear hl a; intro a hl
              refine wl (wl_val hl rfl trivial (r_move hl rfl) ?_)
              clear hl a; intro a hl
              refine w_nil ?_
              have hl2 := hl.add (t := 2) (hl.add (t := 3) (hl.add (t := 13) (hl.add (t := 14) (hl.add (t := 95) (hl.add (t := 96) (hl.add (t := 97) (hl.nil) rfl) rfl) rfl) rfl) rfl) rfl) rfl; clear hl; have hl := hl2; clear hl2
              refine then_normal ?_
              rw [← hq1] at hh
              refine ⟨⟨y.i + 1, y.out, y.p, y.c, y.E⟩, (by simp only; omega), ⟨hy.old (ru_at hr) hcn hin9, hyR⟩, hl.addE (t := 97) (hl.addE (t := 2) (hl.addE (t := 3) (hl.addE (t := 13) (hl.addE (t := 14) (hl.addE (t := 95) (hl.addE (t := 96) (hl.nil) rfl (by first | rfl | exact congrArg (Value.int .i64) (show (y.i : Int) + 1 = ((y.i + 1 : Nat) : Int) by omega) | (rw [hq1]))) rfl (by first | rfl | exact congrArg (Value.int .i64) (show (y.i : Int) + 1 = ((y.i + 1 : Nat) : Int) by omega) | (rw [hq1]))) rfl (by first | rfl | exact congrArg (Value.int .i64) (show (y.i : Int) + 1 = ((y.i + 1 : Nat) : Int) by omega) | (rw [hq1]))) rfl (by first | rfl | exact congrArg (Value.int .i64) (show (y.i : Int) + 1 = ((y.i + 1 : Nat) : Int) by omega) | (rw [hq1]))) rfl (by first | rfl | exact congrArg (Value.int .i64) (show (y.i : Int) + 1 = ((y.i + 1 : Nat) : Int) by omega) | (rw [hq1]))) rfl (by first | rfl | exact congrArg (Value.int .i64) (show (y.i : Int) + 1 = ((y.i + 1 : Nat) : Int) by omega) | (rw [hq1]))) rfl (by first | rfl | exact congrArg (Value.int .i64) (show (y.i : Int) + 1 = ((y.i + 1 : Nat) : Int) by omega) | (rw [hq1])), (by simp only [PZ.T, fmR_snocZ, List.length_append, List.length_singleton, List.append_assoc]; exact hh.keep (by repeat (first | exact keeps_nil | apply keeps_cons (by repeat (first | exact find_head | apply find_tail | apply find_skip)) (by first  | rfl) | exact keeps_self | exact keeps_left | apply keeps_app | apply keeps_mv | apply keeps_skip)))⟩
          · intro hc6
            try simp only [decide_eq_true_eq, decide_eq_false_iff_not, Bool.not_eq_true', Bool.not_eq_false', Bool.not_eq_true, Bool.not_eq_false, Bool.and_eq_true, Bool.or_eq_true, Bool.and_eq_false_iff, Bool.or_eq_false_iff, Bool.not_not, ne_eq, Int.not_lt, Int.not_le, Decidable.not_not, beq_iff_eq, bne_iff_ne] at hc6
            have hye : y.i = rs.length := by omega
            have hDr : ∀ x, x ∈ y.out → ∀ b, b ∈ x.E → b.1 ∉ List.map Prod.fst (y.E ++ [(k14, C [.slice z.p (ns.map (pdM ar m)).length z.c, .slice y.p y.out.length y.c, .int .i64 (stMx (ns.map (pdM ar m)) : Int)] 33), (k13, C [.map (some sb)] 87), (sb, MO kStr m)]) := fun x hx b hb => own_apart hh (A := y.E ++ [(k14, C [.slice z.p (ns.map (pdM ar m)).length z.c, .slice y.p y.out.length y.c, .int .i64 (stMx (ns.map (pdM ar m)) : Int)] 33), (k13, C [.map (some sb)] 87), (sb, MO kStr m)]) (Zf := List.flatMap RV.E y.out) (by repeat (first | exact keeps_nil | apply keeps_cons (by repeat (first | exact find_head | apply find_tail | apply find_skip)) (by first  | rfl) | exact keeps_self | exact keeps_left | apply keeps_app | apply keeps_mv | apply keeps_skip)) (E := List.flatMap RV.E y.out) (fun q hq => hq) b (List.mem_flatMap.2 ⟨x, hx, hb⟩)
            refine wp_exit ?_
            refine then_exit ?_
            refine then_exit ?_
            refine blk_exit ?_
            refine then_normal ?_
            refine c_seq ?_
            refine c_region ?_
            refine wl (wl_val hl rfl trivial (r_field hl rfl fld33_1) ?_)
            clear hl a; intro a hl
            first | refine wl (w_load hl hh rfl trivial one24 rfl (by repeat (first | exact find_head | apply find_tail | apply find_skip)) (by first | rfl | rfl) ?_) | refine wl (wl_val hl rfl trivial (r_load hl rfl one24 (hh.mem _ _ (by repeat (first | exact hbnm | exact List.mem_append_left _ hbnm | apply List.mem_cons_of_mem | apply List.mem_append_right))) (List.getElem?_toArray.trans (fcS hni jn))) ?_)
            clear hl a; intro a hl
            refine wl (wl_val hl rfl trivial (r_makeInterface hl rfl conc24) ?_)
            clear hl a; intro a hl
            refine wl (wl_val hl rfl trivial (r_makeFunc hl rfl) ?_)
            clear hl a; intro a hl
            refine wl (w_call hl hh rfl trivial rfl cal41 rfl (sortZ_spec y.out (by omega) y.p y.c y.E hyR k14 k13 sb (ns.map (pdM ar m)).length z.c (stMx (ns.map (pdM ar m))) z.p m hm1 hy.ok hDr) (by repeat (first | exact keeps_nil | apply keeps_cons (by repeat (first | exact find_head | apply find_tail | apply find_skip)) (by first  | rfl) | exact keeps_self | exact keeps_left | apply keeps_app | apply keeps_mv | apply keeps_skip)) (fun x hx => memK2 hh (by repeat (first | exact keeps_nil | apply keeps_cons (by repeat (first | exact find_head | apply find_tail | apply find_skip)) (by first  | rfl) | exact keeps_self | exact keeps_left | apply keeps_app | apply keeps_mv | apply keeps_skip)) hx) ?_)
            clear hl hh a w; intro vc Fc a w hR hl hh
            obtain ⟨rfl, l', E', hlp', hso, hR', rfl⟩ := hR
            try simp only [List.cons_append, List.nil_append, List.append_assoc, List.append_nil] at hh
            replace hh := hh.comm
            simp only [List.cons_append, List.nil_append, List.append_nil, List.append_assoc] at hh
            refine w_nil ?_
            have hl2 := hl.add (t := 2) (hl.add (t := 3) (hl.add (t := 14) (hl.nil) rfl) rfl) rfl; clear hl; have hl := hl2; clear hl2
            refine then_normal ?_
            refine c_seq ?_
            refine c_region ?_
            first | refine wl (w_loadA hl hh rfl trivial agg33 rfl (by repeat (first | exact find_head | apply find_tail | apply find_skip)) (by first | (simp only [List.getElem?_cons_zero, List.getElem?_cons_succ, Value.cells, List.take_zero, List.take_succ_cons, List.take_nil, List.drop_zero, List.drop_succ_cons, List.drop_nil, List.length_cons, List.length_nil, List.cons_append, List.nil_append, List.append_nil, Nat.zero_add, Nat.add_zero, Nat.reduceAdd, Nat.reduceBEq, Nat.reduceEqDiff, Nat.ble, BEq.rfl, Bool.and_true, Bool.and_self, cond_true, beq_self_eq_true]; rfl)) (by first | rfl | (simp; done)) ?_) | refine wl (w_loadRA hl hh rfl trivial agg33 rfl hm1 (by simp) hd1 rfl ?_)
            clear hl a; intro a hl
            refine wl (wl_val hl rfl trivial (r_build hl rfl zero36 bld36 (by simp only [fillL, setL, List.getElem?_cons_zero, List.getElem?_cons_succ, Value.cells, List.take_zero, List.take_succ_cons, List.take_nil, List.drop_zero, List.drop_succ_cons, List.drop_nil, List.length_cons, List.length_nil, List.cons_append, List.nil_append, List.append_nil, Nat.zero_add, Nat.add_zero, Nat.reduceAdd, Nat.reduceBEq, Nat.reduceEqDiff, Nat.ble, BEq.rfl, Bool.and_true, Bool.and_self, cond_true, beq_self_eq_true]; rfl)) ?_)
            clear hl a; intro a hl
            refine wl (w_storeA hl hh trivial agg33 rfl rfl (by repeat (first | exact find_head | apply find_tail | apply find_skip)) (by first | rfl | (simp; done)) (by first | (simp; done) | (simp; omega)) (by first | rfl | (simp; done) | rfl) (by first | (simp only [setL, List.getElem?_cons_zero, List.getElem?_cons_succ, Value.cells, List.take_zero, List.take_succ_cons, List.take_nil, List.drop_zero, List.drop_succ_cons, List.drop_nil, List.length_cons, List.length_nil, List.cons_append, List.nil_append, List.append_nil, Nat.zero_add, Nat.add_zero, Nat.reduceAdd, Nat.reduceBEq, Nat.reduceEqDiff, Nat.ble, BEq.rfl, Bool.and_true, Bool.and_self, cond_true, beq_self_eq_true]; rfl)) ?_)
            clear hh w; intro w hh
            refine wl (w_storeA hl hh trivial agg36 rfl rfl (by repeat (first | exact find_head | apply find_tail | apply find_skip)) (by first | rfl | (simp; done)) (by first | (simp; done) | (simp; omega)) (by first | rfl | (simp; done) | rfl) (by first | (simp only [setL, List.getElem?_cons_zero, List.getElem?_cons_succ, Value.cells, List.take_zero, List.take_succ_cons, List.take_nil, List.drop_zero, List.drop_succ_cons, List.drop_nil, List.length_cons, List.length_nil, List.cons_append, List.nil_append, List.append_nil, Nat.zero_add, Nat.add_zero, Nat.reduceAdd, Nat.reduceBEq, Nat.reduceEqDiff, Nat.ble, BEq.rfl, Bool.and_true, Bool.and_self, cond_true, beq_self_eq_true]; rfl)) ?_)
            clear hh w; intro w hh
            refine w_nil ?_
            have hl2 := hl.add (t := 2) (hl.add (t := 3) (hl.nil) rfl) rfl; clear hl; have hl := hl2; clear hl2
            refine then_normal ?_
            refine wp_ret ?_
            refine f_retCC (F' := z.E ++ (E' ++ List.flatMap RV.E y.out)) hl hh rfl rfl rfl agg33 agg36 (by repeat (first | exact find_head | apply find_tail | apply find_skip)) (by repeat (first | exact find_head | apply find_tail | apply find_skip)) (by first | rfl | (simp; done)) (by first | rfl | (simp; done)) (by repeat (first | exact keeps_nil | apply keeps_cons (by repeat (first | exact find_head | apply find_tail | apply find_skip)) (by first  | rfl) | exact keeps_self | exact keeps_left | apply keeps_app | apply keeps_mv | apply keeps_skip)) ?_
            have hfn := hy.fin (by rw [List.length_map]; exact hye) hlp'
            have hll := hlp'.length_eq
            rw [hll] at hR'
            exact ⟨⟨ns.map (pdM ar m), z.p, z.c, z.E, l', y.p, y.c, E', stMx (ns.map (pdM ar m))⟩, ⟨0, 0, 0, 0⟩, List.flatMap RV.E y.out, ⟨hzR, by simp only; rw [hll]; exact hR', fun x hx => (hy.ok x (hlp'.mem_iff.1 hx)).1, by simp only; omega⟩, .inr ⟨rfl, ns, m, ar, ⟨⟨ps, bad, hk, hB, hn⟩, hus, hN, hm1, hm2, hm3, har, hfn.1, hfn.2, hso.ru⟩, rfl, rfl⟩, by simp only; rw [hll]; rfl, fun x hx b hb => List.mem_flatMap.2 ⟨x, hlp'.mem_iff.1 hx, hb⟩, rfl⟩
end Go.Proofs.Qxb6500915aGreatDoor

import Derived.Test.Qxb6500915aGreatDoorI1
namespace Go.Proofs.Qxb6500915aGreatDoor
open Go.Eng
set_option linter.unusedVariables false
set_option linter.unusedSimpArgs false

/-! ## repeats dropped -/
def drK (k : List RV) (x : RV) : List RV := match k.getLast? with
  | some y => if cmpR y.ru x.ru = 0 then k else k ++ [x]
  | none => k ++ [x]
def drL (l : List RV) : List RV := l.foldl drK []
structure DR where
  k : List RV
  i : Nat
structure DRI (l0 : List RV) (z : DR) : Prop where
  i : z.i ≤ l0.length
  k : z.k.length ≤ z.i
  e : z.k = drL (l0.take z.i)
  m : ∀ r, r ∈ z.k → r ∈ l0
theorem drL_snoc {l : List RV} {i : Nat} {x : RV} (h : l[i]? = some x) : drL (l.take (i + 1)) = drK (drL (l.take i)) x := by
  unfold drL; rw [List.take_add_one, h, List.foldl_append]; rfl
theorem drK_some {k : List RV} {x y : RV} {n : Nat} (hn : k.length = n + 1) (hy : k[n]? = some y) : drK k x = if cmpR y.ru x.ru = 0 then k else k ++ [x] := by
  unfold drK
  rw [List.getLast?_eq_getElem?, hn, show n + 1 - 1 = n from rfl, hy]
theorem drK_none {k : List RV} {x : RV} (hn : k.length = 0) : drK k x = k ++ [x] := by
  have : k = [] := List.eq_nil_of_length_eq_zero hn
  subst this; rfl
theorem DRI.at {l0 : List RV} {z : DR} (h : DRI l0 z) : (z.k ++ l0.drop z.k.length)[z.i]? = l0[z.i]? := by
  have := h.k
  rw [List.getElem?_append_right this, List.getElem?_drop]
  congr 1; omega
theorem DRI.keep {l0 : List RV} {z : DR} {x : RV} (h : DRI l0 z) (hx : l0[z.i]? = some x) (hd : drK z.k x = z.k) : DRI l0 ⟨z.k, z.i + 1⟩ := by
  have hi := (List.getElem?_eq_some_iff.1 hx).1
  exact ⟨hi, by have := h.k; simp only; omega, by rw [drL_snoc hx, ← h.e, hd], h.m⟩
theorem DRI.add {l0 : List RV} {z : DR} {x : RV} (h : DRI l0 z) (hx : l0[z.i]? = some x) (hd : drK z.k x = z.k ++ [x]) : DRI l0 ⟨z.k ++ [x], z.i + 1⟩ := by
  have hi := (List.getElem?_eq_some_iff.1 hx).1
  refine ⟨hi, by have := h.k; simp only [List.length_append, List.length_singleton]; omega, by rw [drL_snoc hx, ← h.e, hd], fun r hr => ?_⟩
  rcases List.mem_append.1 hr with h9 | h9
  · exact h.m r h9
  · rw [List.mem_singleton.1 h9]; exact List.mem_of_getElem? hx
theorem dr_put {k l0 : List RV} {x : RV} {junk : List Value} (h : k.length < l0.length) : setL (fl RV.c3 (k ++ l0.drop k.length) ++ junk) (k.length * 3) x.c3 = fl RV.c3 ((k ++ [x]) ++ l0.drop (k ++ [x]).length) ++ junk := by
  have h1 := app_gen c3_len k x (fl RV.c3 (l0.drop k.length) ++ junk) k.length rfl (by
    rw [List.length_append, fl_len c3_len, List.length_drop]; omega)
  rw [Nat.zero_add] at h1
  rw [fl_app, List.append_assoc, h1, fl_app (k ++ [x]), List.append_assoc, List.length_append, List.length_singleton, List.drop_eq_getElem_cons h]
  congr 1
theorem dr_clr {k l0 : List RV} {zs junk : List Value} (h : k.length ≤ l0.length) (hz : zs.length = (l0.length - k.length) * 3) : setL (fl RV.c3 (k ++ l0.drop k.length) ++ junk) (0 + k.length * 3) zs = fl RV.c3 k ++ (zs ++ junk) := by
  rw [fl_app, Nat.zero_add]
  have := setL_mid (fl RV.c3 k) (fl RV.c3 (l0.drop k.length)) junk zs (by rw [hz, fl_len c3_len, List.length_drop])
  rw [fl_len c3_len] at this
  rw [this, List.append_assoc]
theorem dr_if {b q c : Nat} : (if q < c then some (⟨b, 0 + q * 3, none⟩ : Addr) else some ⟨b, 0, none⟩) = some ⟨b, if q < c then 0 + q * 3 else 0, none⟩ := by split <;> rfl
theorem dr_clr2 {k l0 : List RV} {c : Nat} {zs junk : List Value} (h : k.length ≤ l0.length) (hc : l0.length ≤ c) (hz : zs.length = (l0.length - k.length) * 3) : setL (fl RV.c3 (k ++ l0.drop k.length) ++ junk) (if k.length < c then 0 + k.length * 3 else 0) zs = fl RV.c3 k ++ (zs ++ junk) := by
  by_cases h1 : k.length < c
  · rw [if_pos h1]; exact dr_clr h hz
  · rw [if_neg h1]
    have h2 : zs = [] := List.eq_nil_of_length_eq_zero (by rw [hz]; omega)
    rw [h2, List.drop_of_length_le (by omega), List.append_nil]
    rfl
theorem drL_nil : drL [] = [] := rfl


/-! ## Normalise, plainly -/
def usP : Nat → List Ru → Option (Nat × Int × Int)
  | _, [] => none
  | i, r :: rs => match safeP r with
    | some q => some (i, q.1, q.2)
    | none => usP (i + 1) rs
theorem usP_go {rs : List Ru} {i : Nat} {r : Ru} (h : rs[i]? = some r) (hs : safeP r = none) : usP i (rs.drop i) = usP (i + 1) (rs.drop (i + 1)) := by
  obtain ⟨hi, rfl⟩ := List.getElem?_eq_some_iff.1 h
  rw [List.drop_eq_getElem_cons hi]
  show (match safeP rs[i] with | some q => _ | none => _) = _
  rw [hs]
theorem usP_hit {rs : List Ru} {i : Nat} {r : Ru} {q : Int × Int} (h : rs[i]? = some r) (hs : safeP r = some q) : usP i (rs.drop i) = some (i, q.1, q.2) := by
  obtain ⟨hi, rfl⟩ := List.getElem?_eq_some_iff.1 h
  rw [List.drop_eq_getElem_cons hi]
  show (match safeP rs[i] with | some q => _ | none => _) = _
  rw [hs]
theorem usP_end {rs : List Ru} {i : Nat} (h : rs.length ≤ i) : usP i (rs.drop i) = none := by
  rw [List.drop_of_length_le h]; rfl
theorem usP_none : ∀ {rs : List Ru} {i : Nat}, usP i rs = none ↔ ∀ r, r ∈ rs → safeP r = none
  | [], i => ⟨fun _ r hr => absurd hr (by simp), fun _ => rfl⟩
  | r :: rs, i => by
    show (match safeP r with | some q => some (i, q.1, q.2) | none => usP (i + 1) rs) = none ↔ _
    cases hs : safeP r with
    | some q => exact ⟨fun h => (by cases h), fun h => (by have := h r (List.mem_cons_self ..); rw [hs] at this; cases this)⟩
    | none =>
      simp only
      rw [usP_none (rs := rs) (i := i + 1)]
      constructor
      · intro h x hx
        rcases List.mem_cons.1 hx with e | e
        · rw [e]; exact hs
        · exact h x e
      · intro h x hx; exact h x (List.mem_cons_of_mem _ hx)
def noC : Nat → List Ru → Option Nat
  | _, [] => none
  | i, r :: rs => match canR r with
    | none => some i
    | some _ => noC (i + 1) rs
theorem noC_go {rs : List Ru} {i : Nat} {r q : Ru} (h : rs[i]? = some r) (hs : canR r = some q) : noC i (rs.drop i) = noC (i + 1) (rs.drop (i + 1)) := by
  obtain ⟨hi, rfl⟩ := List.getElem?_eq_some_iff.1 h
  rw [List.drop_eq_getElem_cons hi]
  show (match canR rs[i] with | none => _ | some _ => _) = _
  rw [hs]
theorem noC_hit {rs : List Ru} {i : Nat} {r : Ru} (h : rs[i]? = some r) (hs : canR r = none) : noC i (rs.drop i) = some i := by
  obtain ⟨hi, rfl⟩ := List.getElem?_eq_some_iff.1 h
  rw [List.drop_eq_getElem_cons hi]
  show (match canR rs[i] with | none => _ | some _ => _) = _
  rw [hs]
theorem noC_end {rs : List Ru} {i : Nat} (h : rs.length ≤ i) : noC i (rs.drop i) = none := by
  rw [List.drop_of_length_le h]; rfl
/-- the ways Normalise refuses -/
def NoF (rus : List Ru) (f : Ft) : Prop :=
  (∃ ps, ckP [] 0 rus = (some f, ps)) ∨ ∃ ps, ckP [] 0 rus = (none, ps) ∧
    ((∃ i q1 q2, usP 0 rus = some (i, q1, q2) ∧ f = ⟨4, i, q1, q2⟩) ∨ (usP 0 rus = none ∧ ∃ bad, BadOk ps rus bad ∧
      ((∃ i j, negP bad 0 rus = some (i, j) ∧ f = ⟨5, i, j, -1⟩) ∨ (negP bad 0 rus = none ∧ ∃ i, noC 0 rus = some i ∧ f = ⟨6, i, -1, -1⟩))))
def stMx (l : List Pd) : Nat := l.foldl (fun n p => max n (p.s + 1)) 0
theorem stMx_snoc {l : List Pd} {i : Nat} {x : Pd} (h : l[i]? = some x) : stMx (l.take (i + 1)) = max (stMx (l.take i)) (x.s + 1) := by
  unfold stMx; rw [List.take_add_one, h, List.foldl_append]; rfl
/-- what Normalise finds: the table, its levels, the rules in order -/
structure NoO (rus : List Ru) (ps' l : List Pd) (q0 qs : List RV) : Prop where
  ck : ∃ ps bad, ckP [] 0 rus = (none, ps) ∧ BadOk ps rus bad ∧ negP bad 0 rus = none ∧ Levelled ps rus ps'
  us : usP 0 rus = none
  lp : l.Perm ps'
  ls : l.Pairwise leP
  cn : q0.map (fun q => some q.ru) = rus.map canR
  qp : qs.Perm q0
  qs : qs.Pairwise (leQ (lvP ps'))
  ok : ∀ q, q ∈ q0 → q.ok
structure NZ where
  i : Nat
  out : List RV
  jb : List Value
structure NZI (rus : List Ru) (n : Nat) (z : NZ) : Prop where
  i : z.i ≤ n
  ol : z.out.length = z.i
  jl : (fl RV.c3 z.out ++ z.jb).length = n * 3
  cn : z.out.map (fun q => some q.ru) = (rus.take z.i).map canR
  nc : noC 0 rus = noC z.i (rus.drop z.i)
  ok : ∀ q, q ∈ z.out → q.ok
theorem NZI.next {rus : List Ru} {n : Nat} {z : NZ} (h : NZI rus n z) {r : Ru} {q : RV} (hr : rus[z.i]? = some r) (hn : z.i < n) (hc : canR r = some q.ru) (hq : q.ok) : NZI rus n ⟨z.i + 1, z.out ++ [q], z.jb.drop 3⟩ := by
  have hj := h.jl
  rw [List.length_append, fl_len c3_len, h.ol] at hj
  refine ⟨hn, by simp only [List.length_append, List.length_singleton, h.ol], ?_, ?_, h.nc.trans (noC_go hr hc), fun x hx => ?_⟩
  · simp only
    rw [List.length_append, fl_len c3_len, List.length_append, List.length_singleton, List.length_drop, h.ol]; omega
  · simp only
    rw [List.map_append, h.cn, List.take_add_one, hr, List.map_append]
    simp [hc]
  · rcases List.mem_append.1 hx with h9 | h9
    · exact h.ok x h9
    · rw [List.mem_singleton.1 h9]; exact hq
theorem nz_put {rus : List Ru} {n : Nat} {z : NZ} (h : NZI rus n z) (hn : z.i < n) (q : RV) : setL (fl RV.c3 z.out ++ z.jb) (z.out.length * 3) q.c3 = fl RV.c3 (z.out ++ [q]) ++ z.jb.drop 3 := by
  have hj := h.jl
  rw [List.length_append, fl_len c3_len, h.ol] at hj
  have := app_gen c3_len z.out q z.jb z.out.length rfl (by omega)
  rw [Nat.zero_add] at this; exact this
/-- the head of a canonical form -/
theorem canR_p {r q : Ru} (h : canR r = some q) : q.p = r.p := by
  unfold canR at h
  cases hq : canP (canI r).B (canI r).oc (canI r).B.length [(0, (canI r).h.1)] [] with
  | none => rw [hq] at h; cases h
  | some b => rw [hq] at h; injection h with h; rw [← h]
theorem lvl_pos {ps ps' : List Pd} {rus : List Ru} (h : Levelled ps rus ps') (n : ByteArray) : pos ps' n = pos ps n := by
  obtain ⟨L, _, hL⟩ := h.ex
  have hn : ps'.map Pd.n = ps.map Pd.n := by
    apply List.ext_getElem?
    intro i
    rw [List.getElem?_map, List.getElem?_map]
    cases hq : ps[i]? with
    | none =>
      have : ps'[i]? = none := by rw [List.getElem?_eq_none_iff] at hq ⊢; rw [h.len]; exact hq
      rw [this]
    | some p => rw [hL i p hq]; rfl
  have key : ∀ a b : List Pd, a.map Pd.n = b.map Pd.n → pos a n = pos b n := by
    intro a
    induction a with
    | nil => intro b hb; cases b with
      | nil => rfl
      | cons y b => cases hb
    | cons x a ih =>
      intro b hb
      cases b with
      | nil => cases hb
      | cons y b =>
        rw [List.map_cons, List.map_cons] at hb
        injection hb with h1 h2
        show (if n = x.n then some 0 else (pos a n).map (· + 1)) = (if n = y.n then some 0 else (pos b n).map (· + 1))
        rw [h1, ih b h2]
  exact key _ _ hn
/-- heads of the canonical forms stand in the table -/
theorem nz_in {rus : List Ru} {out : List RV} {ps : List Pd} (hc : out.map (fun q => some q.ru) = rus.map canR) (hT : InT ps rus) : ∀ q, q ∈ out → (pos ps q.p).isSome = true := by
  intro q hq
  have h1 : some q.ru ∈ rus.map canR := by rw [← hc]; exact List.mem_map.2 ⟨q, hq, rfl⟩
  obtain ⟨r, hr, h2⟩ := List.mem_map.1 h1
  have h3 := canR_p h2
  have h4 := hT.h r hr
  rw [← h3] at h4; exact h4
theorem dpos_none : ∀ {vs : List Int} {v : Int}, dpos vs v = none → v ∉ vs
  | [], v, _ => fun h => by cases h
  | u :: vs, v, h => by
    unfold dpos at h
    split at h
    · cases h
    · rename_i hn
      cases hq : dpos vs v with
      | some j => rw [hq] at h; cases h
      | none =>
        intro hm
        rcases List.mem_cons.1 hm with e | e
        · exact hn e
        · exact dpos_none hq e
theorem rn1_vs (vs : List Int) (t : Tm) : (rn1 vs t).1 = nvS vs t := by
  unfold nvS
  by_cases hk : t.k = 0
  · rcases dpos_cases vs t.v with h | ⟨d, h⟩
    · rw [rn1_new hk h, if_pos ⟨hk, dpos_none h⟩]
    · rw [rn1_old hk h, if_neg (fun hh => hh.2 (List.mem_of_getElem? (dpos_lt h)))]
  · rw [rn1_no hk, if_neg (fun hh => hk hh.1)]
theorem rnTs_vs : ∀ (ts : List Tm) (vs : List Int), (rnTs vs ts).1 = nvs vs ts
  | [], vs => rfl
  | t :: ts, vs => by
    show (rnTs (rn1 vs t).1 ts).1 = nvs (nvS vs t) ts
    rw [rnTs_vs ts, rn1_vs]
theorem rnLs_vs : ∀ (ls : List Lt) (vs : List Int), (rnLs vs ls).1 = ls.foldl (fun vs l => nvs vs l.a) vs
  | [], vs => rfl
  | l :: ls, vs => by
    show (rnLs (rnTs vs l.a).1 ls).1 = _
    rw [rnLs_vs ls, rnTs_vs]; rfl
theorem canI_vs (r : Ru) : (canI r).vs = (vars r).length := by
  show (rnLs (rnTs [] r.a).1 r.b).1.length = _
  rw [rnLs_vs, rnTs_vs]; rfl


attribute [local irreducible] RV.E

set_option maxHeartbeats 8000000 in
theorem drop_spec (l0 : List RV) (hok : ∀ r, r ∈ l0 → r.ok) (b c : Nat) (junk : List Value) (hjl : (fl RV.c3 l0 ++ junk).length = c * 3) (hjc : l0.length ≤ c) (hc9 : l0.length ≤ 100000000) (hc8 : c ≤ 100000000) (hDr : ∀ r, r ∈ l0 → ∀ z, z ∈ r.E → z.1 ∉ List.map Prod.fst [(b, C (fl RV.c3 l0 ++ junk) 57)]) : SpK Tryz.prog 29 #[.slice (some ⟨b, 0, none⟩) l0.length c] (fun w => ∀ r, r ∈ l0 → Mem r.E w) [(b, C (fl RV.c3 l0 ++ junk) 57)] (fun v F' => v = .slice (some ⟨b, 0, none⟩) (drL l0).length c ∧ Row (.slice (some ⟨b, 0, none⟩) (drL l0).length c) (drL l0).length (fl RV.c3 (drL l0)) 3 57 F') := by
  refine f_enter (args := [.slice (some ⟨b, 0, none⟩) l0.length c]) Tryz.func29 rfl Tryz.ntmps29 rfl ?_
  intro w0 w a hpre hl hh
  generalize hDD : List.map Prod.fst [(b, C (fl RV.c3 l0 ++ junk) 57)] = D at hh hDr ⊢
  have hfl : (fl RV.c3 l0 ++ junk).length = l0.length * 3 + junk.length := by rw [List.length_append, fl_len c3_len]
  simp only [slotsFrom, Nat.reduceAdd] at hl
  refine c_seq ?_
  refine c_region ?_
  refine wl (wl_val hl rfl trivial (r_assign hl rfl) ?_)
  clear hl a; intro a hl
  refine w_nil ?_
  have hl2 := hl.add (t := 0) (hl.nil) rfl; clear hl; have hl := hl2; clear hl2
  refine then_normal ?_
  refine c_seq ?_
  refine c_region ?_
  refine wl (wl_val hl rfl trivial (r_move hl rfl) ?_)
  clear hl a; intro a hl
  refine wl (wl_val hl rfl trivial (r_sliceS01 (by intro q e; first | (cases e; rfl) | (cases e; done)) hl rfl rfl slc24 (by first | trivial | (simp; done) | (simp; omega) | omega) (by first | (simp only [Int.reduceToNat]; rfl) | exact toNat_add1 _ | exact toNat_add2 _ _ | exact toNat_emod _ _ | exact Int.toNat_natCast _ | rfl)) ?_)
  clear hl a; intro a hl
  refine wl (wl_val hl rfl trivial (r_assign hl rfl) ?_)
  clear hl a; intro a hl
  refine w_nil ?_
  have hl2 := hl.add (t := 0) (hl.add (t := 3) (hl.nil) rfl) rfl; clear hl; have hl := hl2; clear hl2
  refine then_normal ?_
  refine c_seq ?_
  refine c_seq ?_
  refine c_region ?_
  refine wl (wl_val hl rfl trivial (r_move hl rfl) ?_)
  clear hl a; intro a hl
  refine wl (wl_val hl rfl trivial (r_lenS hl rfl slc24) ?_)
  clear hl a; intro a hl
  refine wl (wl_val hl rfl trivial (r_move hl rfl) ?_)
  clear hl a; intro a hl
  refine w_nil ?_
  have hl2 := hl.add (t := 0) (hl.add (t := 3) (hl.add (t := 8) (hl.add (t := 9) (hl.add (t := 10) (hl.nil) rfl) rfl) rfl) rfl) rfl; clear hl; have hl := hl2; clear hl2
  refine then_normal ?_
  refine wp_block ?_
  obtain ⟨KS0, hKS0, hk⟩ := (hl.add (t := 0) (hl.add (t := 8) (hl.add (t := 9) (hl.nil) rfl) rfl) rfl).name
  obtain ⟨HS0, hHS0, hh2⟩ := hh.name (keeps_cons (b := b) (o' := C (fl RV.c3 l0 ++ junk) 57) (by repeat (first | exact find_head | apply find_tail | apply find_skip)) (by first | rfl) (keeps_nil))
  refine c_loop (α := DR) (fun z => l0.length - z.i) (fun z a w => (DRI l0 z) ∧ Sl 38 ([(10, .int .i64 (z.i : Int)), (3, .slice (some ⟨b, 0, none⟩) z.k.length c)] ++ KS0) a ∧ Has _ w0 ([(b, C (fl RV.c3 (z.k ++ l0.drop z.k.length) ++ junk) 57)] ++ HS0) w) ⟨[], 0⟩ ⟨⟨Nat.zero_le _, Nat.le_refl _, rfl, fun r hr => by cases hr⟩, hl.addE (t := 10) (hl.addE (t := 3) (hk) rfl (by first | rfl)) rfl (by first | rfl), hh2⟩ ?_
  clear hk hh2 hl hh a w
  intro z a w hI
  obtain ⟨hz, hl, hh⟩ := hI
  subst hKS0; subst hHS0
  simp only [List.cons_append, List.nil_append, List.append_nil, List.append_assoc] at hl hh
  have hzi := hz.i; have hzk := hz.k
  refine c_seq ?_
  refine c_region ?_
  refine wl (wl_val hl rfl trivial (r_lss hl rfl rfl) ?_)
  clear hl a; intro a hl
  refine w_nil ?_
  have hl2 := hl.add (t := 0) (hl.add (t := 3) (hl.add (t := 8) (hl.add (t := 9) (hl.add (t := 10) (hl.add (t := 11) (hl.nil) rfl) rfl) rfl) rfl) rfl) rfl; clear hl; have hl := hl2; clear hl2
  refine then_normal ?_
  refine c_seq ?_
  refine c_cond hl rfl ?_ ?_
  · intro hc0
    try simp only [decide_eq_true_eq, decide_eq_false_iff_not, Bool.not_eq_true', Bool.not_eq_false', Bool.not_eq_true, Bool.not_eq_false, Bool.and_eq_true, Bool.or_eq_true, Bool.and_eq_false_iff, Bool.or_eq_false_iff, Bool.not_not, ne_eq, Int.not_lt, Int.not_le, Decidable.not_not, beq_iff_eq, bne_iff_ne] at hc0
    obtain ⟨x, hx⟩ : ∃ x, l0[z.i]? = some x := ⟨_, List.getElem?_eq_getElem (by omega)⟩
    have hxm := List.mem_of_getElem? hx
    have hzl : z.i < l0.length := by omega
    have hd1 := fl_at c3_len (hz.at.trans hx) junk
    simp only [RV.c3] at hd1
    refine wp_skip ?_
    refine then_normal ?_
    refine c_seq ?_
    refine wp_block ?_
    refine c_seq ?_
    refine c_region ?_
    refine wl (wl_val hl rfl trivial (r_indexS hl rfl rfl slc24 (by omega) (by omega) (by first | (simp only [Int.reduceToNat]; rfl) | exact toNat_add1 _ | exact toNat_add2 _ _ | exact toNat_emod _ _ | exact Int.toNat_natCast _ | rfl)) ?_)
    clear hl a; intro a hl
    refine wl (w_loadA hl hh rfl trivial agg57 rfl (by repeat (first | exact find_head | apply find_tail | apply find_skip)) (by first | exact hd1 | exact hd2 | (simp only [List.getElem?_cons_zero, List.getElem?_cons_succ, Value.cells, List.take_zero, List.take_succ_cons, List.take_nil, List.drop_zero, List.drop_succ_cons, List.drop_nil, List.length_cons, List.length_nil, List.cons_append, List.nil_append, List.append_nil, Nat.zero_add, Nat.add_zero, Nat.reduceAdd, Nat.reduceBEq, Nat.reduceEqDiff, Nat.ble, BEq.rfl, Bool.and_true, Bool.and_self, cond_true, beq_self_eq_true]; rfl)) (by first | rfl | (simp; done)) ?_)
    clear hl a; intro a hl
    refine wl (w_alloc hl hh rfl trivial zero57 rfl ?_)
    clear hl hh a w; intro k5 a w hl hh
    refine wl (w_storeA hl hh trivial agg57 rfl rfl (by repeat (first | exact find_head | apply find_tail | apply find_skip)) (by first | rfl | (simp; done) | exact hd1 | exact hd2) (by first | (simp; done) | (simp; omega)) (by first | rfl | (simp; done)) (by first | (simp only [setL, List.getElem?_cons_zero, List.getElem?_cons_succ, Value.cells, List.take_zero, List.take_succ_cons, List.take_nil, List.drop_zero, List.drop_succ_cons, List.drop_nil, List.length_cons, List.length_nil, List.cons_append, List.nil_append, List.append_nil, Nat.zero_add, Nat.add_zero, Nat.reduceAdd, Nat.reduceBEq, Nat.reduceEqDiff, Nat.ble, BEq.rfl, Bool.and_true, Bool.and_self, cond_true, beq_self_eq_true]; rfl)) ?_)
    clear hh w; intro w hh
    refine w_nil ?_
    have hl2 := hl.add (t := 0) (hl.add (t := 3) (hl.add (t := 5) (hl.add (t := 8) (hl.add (t := 9) (hl.add (t := 10) (hl.nil) rfl) rfl) rfl) rfl) rfl) rfl; clear hl; have hl := hl2; clear hl2
    refine then_normal ?_
    refine c_seq ?_
    refine c_draw [(b, C (fl RV.c3 (z.k ++ l0.drop z.k.length) ++ junk) 57), (k5, C [.string x.p, .slice x.hp x.a.length x.hc, .slice x.bp x.ls.length x.bc] 57)] [] mixed hh ?_
    clear hh w; intro w hh
    have hM : Mem [(b, C (fl RV.c3 (z.k ++ l0.drop z.k.length) ++ junk) 57), (k5, C [.string x.p, .slice x.hp x.a.length x.hc, .slice x.bp x.ls.length x.bc] 57)] w := (memK hh (by repeat (first | exact keeps_nil | apply keeps_cons (by repeat (first | exact find_head | apply find_tail | apply find_skip)) (by first  | rfl) | exact keeps_self | exact keeps_left | apply keeps_app | apply keeps_mv | apply keeps_skip)))
    refine d_take (i := 0) hl rfl (by kernel_rfl) (by kernel_rfl) (by kernel_rfl) (by kernel_rfl) (by kernel_rfl) rfl trivial (fun _ _ _ h => h) hM (fun w hC => r_move hl rfl) rfl ?_
    clear hl a; intro a hl
    refine d_take (i := 1) hl rfl (by kernel_rfl) (by kernel_rfl) (by kernel_rfl) (by kernel_rfl) (by kernel_rfl) rfl trivial (fun _ _ _ h => h) hM (fun w hC => r_lenS hl rfl slc24) rfl ?_
    clear hl a; intro a hl
    refine d_take (i := 2) hl rfl (by kernel_rfl) (by kernel_rfl) (by kernel_rfl) (by kernel_rfl) (by kernel_rfl) rfl trivial (fun _ _ _ h => h) hM (fun w hC => r_eql hl rfl rfl) rfl ?_
    clear hl a; intro a hl
    refine d_take (i := 3) hl rfl (by kernel_rfl) (by kernel_rfl) (by kernel_rfl) (by kernel_rfl) (by kernel_rfl) rfl trivial (fun _ _ _ h => h) hM (fun w hC => r_move hl rfl) rfl ?_
    clear hl a; intro a hl
    refine sl_split (t := 17) hl rfl ?_ ?_
    · intro hg1; clear hl; intro hl
      try simp only [decide_eq_true_eq, decide_eq_false_iff_not, Bool.not_eq_true', Bool.not_eq_false', Bool.not_eq_true, Bool.not_eq_false, Bool.and_eq_true, Bool.or_eq_true, Bool.and_eq_false_iff, Bool.or_eq_false_iff, Bool.not_not, ne_eq, Int.not_lt, Int.not_le, Decidable.not_not, beq_iff_eq, bne_iff_ne] at hg1
      refine d_skip (i := 4) hl rfl (by kernel_rfl) (by kernel_rfl) (by kernel_rfl) (by kernel_rfl) (by kernel_rfl) rfl ⟨_, _, rfl, rfl, rfl⟩ (fun _ _ _ h => h) hM ?_
      clear hl a; intro a hl
      refine d_skip (i := 5) hl rfl (by kernel_rfl) (by kernel_rfl) (by kernel_rfl) (by kernel_rfl) (by kernel_rfl) rfl ⟨_, _, rfl, rfl, rfl⟩ (fun _ _ _ h => h) hM ?_
      clear hl a; intro a hl
      refine d_skip (i := 6) hl rfl (by kernel_rfl) (by kernel_rfl) (by kernel_rfl) (by kernel_rfl) (by kernel_rfl) rfl ⟨_, _, rfl, rfl, rfl⟩ (fun _ _ _ h => h) hM ?_
      clear hl a; intro a hl
      refine d_skip (i := 7) hl rfl (by kernel_rfl) (by kernel_rfl) (by kernel_rfl) (by kernel_rfl) (by kernel_rfl) rfl ⟨_, _, rfl, rfl, rfl⟩ (fun _ _ _ h => h) hM ?_
      clear hl a; intro a hl
      refine d_skip (i := 8) hl rfl (by kernel_rfl) (by kernel_rfl) (by kernel_rfl) (by kernel_rfl) (by kernel_rfl) rfl ⟨_, _, rfl, rfl, rfl⟩ (fun _ _ _ h => h) hM ?_
      clear hl a; intro a hl
      refine d_skip (i := 9) hl rfl (by kernel_rfl) (by kernel_rfl) (by kernel_rfl) (by kernel_rfl) (by kernel_rfl) rfl ⟨_, _, rfl, rfl, rfl⟩ (fun _ _ _ h => h) hM ?_
      clear hl a; intro a hl
      refine d_skip (i := 10) hl rfl (by kernel_rfl) (by kernel_rfl) (by kernel_rfl) (by kernel_rfl) (by kernel_rfl) rfl ⟨_, _, rfl, rfl, rfl⟩ (fun _ _ _ h => h) hM ?_
      clear hl a; intro a hl
      refine d_skip (i := 11) hl rfl (by kernel_rfl) (by kernel_rfl) (by kernel_rfl) (by kernel_rfl) (by kernel_rfl) rfl ⟨_, _, rfl, rfl, rfl⟩ (fun _ _ _ h => h) hM ?_
      clear hl a; intro a hl
      refine d_skip (i := 12) hl rfl (by kernel_rfl) (by kernel_rfl) (by kernel_rfl) (by kernel_rfl) (by kernel_rfl) rfl ⟨_, _, rfl, rfl, rfl⟩ (fun _ _ _ h => h) hM ?_
      clear hl a; intro a hl
      refine d_take (i := 13) hl rfl (by kernel_rfl) (by kernel_rfl) (by kernel_rfl) (by kernel_rfl) (by kernel_rfl) rfl trivial (fun _ _ _ h => h) hM (fun w hC => r_pickT hl rfl rfl) rfl ?_
      clear hl a; intro a hl
      refine d_done (by kernel_rfl) ?_
      try clear hM
      have hl2 := hl.add (t := 0) (hl.add (t := 3) (hl.add (t := 5) (hl.add (t := 8) (hl.add (t := 9) (hl.add (t := 10) (hl.add (t := 27) (hl.nil) rfl) rfl) rfl) rfl) rfl) rfl) rfl; clear hl; have hl := hl2; clear hl2
      refine then_normal ?_
      refine c_condT hl rfl ?_
      have hdr : drK z.k x = z.k ++ [x] := by
        first
        | exact drK_none (by omega)
        | (rw [drK_some hnk hy, if_neg hc1])
      refine c_region ?_
      refine wl (wl_val hl rfl trivial (r_move hl rfl) ?_)
      clear hl a; intro a hl
      refine wl (w_loadA hl hh rfl trivial agg57 rfl (by repeat (first | exact find_head | apply find_tail | apply find_skip)) (by first | exact hd1 | exact hd2 | (simp only [List.getElem?_cons_zero, List.getElem?_cons_succ, Value.cells, List.take_zero, List.take_succ_cons, List.take_nil, List.drop_zero, List.drop_succ_cons, List.drop_nil, List.length_cons, List.length_nil, List.cons_append, List.nil_append, List.append_nil, Nat.zero_add, Nat.add_zero, Nat.reduceAdd, Nat.reduceBEq, Nat.reduceEqDiff, Nat.ble, BEq.rfl, Bool.and_true, Bool.and_self, cond_true, beq_self_eq_true]; rfl)) (by first | rfl | (simp; done)) ?_)
      clear hl a; intro a hl
      refine wl (w_buildSlice hl hh rfl trivial app24 zero57 rfl rfl rfl rfl rfl (by simp only [fillL, arrPl, List.range_succ, List.range_zero, List.map_cons, List.map_nil, List.map_append, List.nil_append, List.replicate_succ, List.replicate_zero, List.flatten_cons, List.flatten_nil, Nat.zero_mul, Nat.mul_one, Nat.one_mul, Nat.reduceMul, setL, List.getElem?_cons_zero, List.getElem?_cons_succ, Value.cells, List.take_zero, List.take_succ_cons, List.take_nil, List.drop_zero, List.drop_succ_cons, List.drop_nil, List.length_cons, List.length_nil, List.cons_append, List.nil_append, List.append_nil, Nat.zero_add, Nat.add_zero, Nat.reduceAdd, Nat.reduceBEq, Nat.reduceEqDiff, Nat.ble, BEq.rfl, Bool.and_true, Bool.and_self, cond_true, beq_self_eq_true]; rfl) ?_)
      clear hl hh a w; intro k30 a w hl hh
      refine wl (w_appendRoom (news := x.c3) hl hh rfl trivial app24 rfl rfl (by repeat (first | exact find_head | apply find_tail | apply find_skip)) (hh.mem _ _ (Find.mem (by repeat (first | exact find_head | apply find_tail | apply find_skip)))) (by omega) (by rw [List.length_append, fl_len c3_len, List.length_append, List.length_drop]; omega) (by rfl) rfl rfl (dr_put (by omega)) ?_)
      clear hl hh a w; intro a w hl hh
      refine wl (wl_val hl rfl trivial (r_assign hl rfl) ?_)
      clear hl a; intro a hl
      refine w_nil ?_
      have hl2 := hl.add (t := 0) (hl.add (t := 3) (hl.add (t := 8) (hl.add (t := 9) (hl.add (t := 10) (hl.nil) rfl) rfl) rfl) rfl) rfl; clear hl; have hl := hl2; clear hl2
      refine blk_normal ?_
      refine then_normal ?_
      refine c_region ?_
      first | refine wl (wl_val hl rfl trivial (r_add hl rfl rfl (by simp only [Fits]; omega)) ?_) | refine wl (wl_val hl rfl trivial (r_addW hl rfl rfl) ?_)
      clear hl a; intro a hl
      refine wl (wl_val hl rfl trivial (r_move hl rfl) ?_)
      clear hl a; intro a hl
      refine w_nil ?_
      have hl2 := hl.add (t := 0) (hl.add (t := 3) (hl.add (t := 8) (hl.add (t := 9) (hl.add (t := 10) (hl.nil) rfl) rfl) rfl) rfl) rfl; clear hl; have hl := hl2; clear hl2
      refine then_normal ?_
      refine ⟨⟨z.k ++ [x], z.i + 1⟩, (by simp only; omega), hz.add hx hdr, hl.addE (t := 10) (hl.addE (t := 3) (hl.addE (t := 0) (hl.addE (t := 8) (hl.addE (t := 9) (hl.nil) rfl (by first | rfl | exact congrArg (Value.int .i64) (show (z.i : Int) + 1 = ((z.i + 1 : Nat) : Int) by omega) | (simp only [List.length_append, List.length_singleton]; done))) rfl (by first | rfl | exact congrArg (Value.int .i64) (show (z.i : Int) + 1 = ((z.i + 1 : Nat) : Int) by omega) | (simp only [List.length_append, List.length_singleton]; done))) rfl (by first | rfl | exact congrArg (Value.int .i64) (show (z.i : Int) + 1 = ((z.i + 1 : Nat) : Int) by omega) | (simp only [List.length_append, List.length_singleton]; done))) rfl (by first | rfl | exact congrArg (Value.int .i64) (show (z.i : Int) + 1 = ((z.i + 1 : Nat) : Int) by omega) | (simp only [List.length_append, List.length_singleton]; done))) rfl (by first | rfl | exact congrArg (Value.int .i64) (show (z.i : Int) + 1 = ((z.i + 1 : Nat) : Int) by omega) | (simp only [List.length_append, List.length_singleton]; done)), hh.keep (by repeat (first | exact keeps_nil | apply keeps_cons (by repeat (first | exact find_head | apply find_tail | apply find_skip)) (by first  | rfl) | exact keeps_self | exact keeps_left | apply keeps_app | apply keeps_mv | apply keeps_skip))⟩
    · intro hg1; clear hl; intro hl
      try simp only [decide_eq_true_eq, decide_eq_false_iff_not, Bool.not_eq_true', Bool.not_eq_false', Bool.not_eq_true, Bool.not_eq_false, Bool.and_eq_true, Bool.or_eq_true, Bool.and_eq_false_iff, Bool.or_eq_false_iff, Bool.not_not, ne_eq, Int.not_lt, Int.not_le, Decidable.not_not, beq_iff_eq, bne_iff_ne] at hg1
      refine d_take (i := 4) hl rfl (by kernel_rfl) (by kernel_rfl) (by kernel_rfl) (by kernel_rfl) (by kernel_rfl) rfl ⟨_, _, rfl, rfl, rfl⟩ (fun _ _ _ h => h) hM (fun w hC => r_move hl rfl) rfl ?_
      clear hl a; intro a hl
      refine d_take (i := 5) hl rfl (by kernel_rfl) (by kernel_rfl) (by kernel_rfl) (by kernel_rfl) (by kernel_rfl) rfl ⟨_, _, rfl, rfl, rfl⟩ (fun _ _ _ h => h) hM (fun w hC => r_move hl rfl) rfl ?_
      clear hl a; intro a hl
      refine d_take (i := 6) hl rfl (by kernel_rfl) (by kernel_rfl) (by kernel_rfl) (by kernel_rfl) (by kernel_rfl) rfl ⟨_, _, rfl, rfl, rfl⟩ (fun _ _ _ h => h) hM (fun w hC => r_lenS hl rfl slc24) rfl ?_
      clear hl a; intro a hl
      obtain ⟨nk, hnk⟩ : ∃ n, z.k.length = n + 1 := ⟨z.k.length - 1, by omega⟩
      obtain ⟨y, hy⟩ : ∃ y, z.k[nk]? = some y := ⟨_, List.getElem?_eq_getElem (by omega)⟩
      have hym := hz.m y (List.mem_of_getElem? hy)
      have hd2 := fl_at c3_len (show (z.k ++ l0.drop z.k.length)[nk]? = some y by rw [List.getElem?_append_left (by omega)]; exact hy) junk
      simp only [RV.c3] at hd2
      first | refine d_take (i := 7) hl rfl (by kernel_rfl) (by kernel_rfl) (by kernel_rfl) (by kernel_rfl) (by kernel_rfl) rfl ⟨_, _, rfl, rfl, rfl⟩ (fun _ _ _ h => h) hM (fun w hC => r_sub hl rfl rfl (by simp only [Fits]; omega)) rfl ?_ | refine d_take (i := 7) hl rfl (by kernel_rfl) (by kernel_rfl) (by kernel_rfl) (by kernel_rfl) (by kernel_rfl) rfl ⟨_, _, rfl, rfl, rfl⟩ (fun _ _ _ h => h) hM (fun w hC => r_subW hl rfl rfl) rfl ?_
      clear hl a; intro a hl
      rw [show (z.k.length : Int) - 1 = (nk : Int) by omega] at hl
      refine d_take (i := 8) hl rfl (by kernel_rfl) (by kernel_rfl) (by kernel_rfl) (by kernel_rfl) (by kernel_rfl) rfl ⟨_, _, rfl, rfl, rfl⟩ (fun _ _ _ h => h) hM (fun w hC => r_indexS hl rfl rfl slc24 (by omega) (by omega) (by first | (simp only [Int.reduceToNat]; rfl) | exact toNat_add1 _ | exact toNat_add2 _ _ | exact toNat_emod _ _ | exact Int.toNat_natCast _ | rfl)) rfl ?_
      clear hl a; intro a hl
      refine d_take (i := 9) hl rfl (by kernel_rfl) (by kernel_rfl) (by kernel_rfl) (by kernel_rfl) (by kernel_rfl) rfl ⟨_, _, rfl, rfl, rfl⟩ (fun _ _ _ h => h) hM (fun w hC => r_loadCA hl rfl agg57 hC (by repeat (first | exact find_head | apply find_tail | apply find_skip)) (by first | exact hd1 | exact hd2 | (simp only [List.getElem?_cons_zero, List.getElem?_cons_succ, Value.cells, List.take_zero, List.take_succ_cons, List.take_nil, List.drop_zero, List.drop_succ_cons, List.drop_nil, List.length_cons, List.length_nil, List.cons_append, List.nil_append, List.append_nil, Nat.zero_add, Nat.add_zero, Nat.reduceAdd, Nat.reduceBEq, Nat.reduceEqDiff, Nat.ble, BEq.rfl, Bool.and_true, Bool.and_self, cond_true, beq_self_eq_true]; rfl)) (by first | rfl | (simp; done))) rfl ?_
      clear hl a; intro a hl
      refine d_take (i := 10) hl rfl (by kernel_rfl) (by kernel_rfl) (by kernel_rfl) (by kernel_rfl) (by kernel_rfl) rfl ⟨_, _, rfl, rfl, rfl⟩ (fun _ _ _ h => h) hM (fun w hC => r_loadCA hl rfl agg57 hC (by repeat (first | exact find_head | apply find_tail | apply find_skip)) (by first | exact hd1 | exact hd2 | (simp only [List.getElem?_cons_zero, List.getElem?_cons_succ, Value.cells, List.take_zero, List.take_succ_cons, List.take_nil, List.drop_zero, List.drop_succ_cons, List.drop_nil, List.length_cons, List.length_nil, List.cons_append, List.nil_append, List.append_nil, Nat.zero_add, Nat.add_zero, Nat.reduceAdd, Nat.reduceBEq, Nat.reduceEqDiff, Nat.ble, BEq.rfl, Bool.and_true, Bool.and_self, cond_true, beq_self_eq_true]; rfl)) (by first | rfl | (simp; done))) rfl ?_
      clear hl a; intro a hl
      refine d_one (i := 11) (by kernel_rfl) rfl ?_
      try clear hM
      refine id (w_call hl hh rfl ⟨_, _, rfl, rfl, rfl⟩ rfl cal27 rfl (cmpR_spec y x (hok y hym) (hok x hxm)) (by repeat (first | exact keeps_nil | apply keeps_cons (by repeat (first | exact find_head | apply find_tail | apply find_skip)) (by first  | rfl) | exact keeps_self | exact keeps_left | apply keeps_app | apply keeps_mv | apply keeps_skip)) ⟨mem_keepD hh (hpre y hym) (hDr y hym), mem_keepD hh (hpre x hxm) (hDr x hxm)⟩ ?_)
      clear hl hh a w; intro vc Fc a w hR hl hh
      obtain ⟨rfl, rfl⟩ := hR
      try simp only [List.cons_append, List.nil_append, List.append_assoc, List.append_nil] at hh
      have hM : Mem [(b, C (fl RV.c3 (z.k ++ l0.drop z.k.length) ++ junk) 57), (k5, C [.string x.p, .slice x.hp x.a.length x.hc, .slice x.bp x.ls.length x.bc] 57)] w := (memK hh (by repeat (first | exact keeps_nil | apply keeps_cons (by repeat (first | exact find_head | apply find_tail | apply find_skip)) (by first  | rfl) | exact keeps_self | exact keeps_left | apply keeps_app | apply keeps_mv | apply keeps_skip)))
      refine d_step (fun _ => hM) ?_
      refine d_take (i := 12) hl rfl (by kernel_rfl) (by kernel_rfl) (by kernel_rfl) (by kernel_rfl) (by kernel_rfl) rfl ⟨_, _, rfl, rfl, rfl⟩ (fun _ _ _ h => h) hM (fun w hC => r_neq hl rfl rfl) rfl ?_
      clear hl a; intro a hl
      refine d_take (i := 13) hl rfl (by kernel_rfl) (by kernel_rfl) (by kernel_rfl) (by kernel_rfl) (by kernel_rfl) rfl trivial (fun _ _ _ h => h) hM (fun w hC => r_pickF hl rfl rfl) rfl ?_
      clear hl a; intro a hl
      refine d_done (by kernel_rfl) ?_
      try clear hM
      have hl2 := hl.add (t := 0) (hl.add (t := 3) (hl.add (t := 5) (hl.add (t := 8) (hl.add (t := 9) (hl.add (t := 10) (hl.add (t := 27) (hl.nil) rfl) rfl) rfl) rfl) rfl) rfl) rfl; clear hl; have hl := hl2; clear hl2
      refine then_normal ?_
      refine c_cond hl rfl ?_ ?_
      · intro hc1
        try simp only [decide_eq_true_eq, decide_eq_false_iff_not, Bool.not_eq_true', Bool.not_eq_false', Bool.not_eq_true, Bool.not_eq_false, Bool.and_eq_true, Bool.or_eq_true, Bool.and_eq_false_iff, Bool.or_eq_false_iff, Bool.not_not, ne_eq, Int.not_lt, Int.not_le, Decidable.not_not, beq_iff_eq, bne_iff_ne] at hc1
        have hdr : drK z.k x = z.k ++ [x] := by
          first
          | exact drK_none (by omega)
          | (rw [drK_some hnk hy, if_neg hc1])
        refine c_region ?_
        refine wl (wl_val hl rfl trivial (r_move hl rfl) ?_)
        clear hl a; intro a hl
        refine wl (w_loadA hl hh rfl trivial agg57 rfl (by repeat (first | exact find_head | apply find_tail | apply find_skip)) (by first | exact hd1 | exact hd2 | (simp only [List.getElem?_cons_zero, List.getElem?_cons_succ, Value.cells, List.take_zero, List.take_succ_cons, List.take_nil, List.drop_zero, List.drop_succ_cons, List.drop_nil, List.length_cons, List.length_nil, List.cons_append, List.nil_append, List.append_nil, Nat.zero_add, Nat.add_zero, Nat.reduceAdd, Nat.reduceBEq, Nat.reduceEqDiff, Nat.ble, BEq.rfl, Bool.and_true, Bool.and_self, cond_true, beq_self_eq_true]; rfl)) (by first | rfl | (simp; done)) ?_)
        clear hl a; intro a hl
        refine wl (w_buildSlice hl hh rfl trivial app24 zero57 rfl rfl rfl rfl rfl (by simp only [fillL, arrPl, List.range_succ, List.range_zero, List.map_cons, List.map_nil, List.map_append, List.nil_append, List.replicate_succ, List.replicate_zero, List.flatten_cons, List.flatten_nil, Nat.zero_mul, Nat.mul_one, Nat.one_mul, Nat.reduceMul, setL, List.getElem?_cons_zero, List.getElem?_cons_succ, Value.cells, List.take_zero, List.take_succ_cons, List.take_nil, List.drop_zero, List.drop_succ_cons, List.drop_nil, List.length_cons, List.length_nil, List.cons_append, List.nil_append, List.append_nil, Nat.zero_add, Nat.add_zero, Nat.reduceAdd, Nat.reduceBEq, Nat.reduceEqDiff, Nat.ble, BEq.rfl, Bool.and_true, Bool.and_self, cond_true, beq_self_eq_true]; rfl) ?_)
        clear hl hh a w; intro k30 a w hl hh
        refine wl (w_appendRoom (news := x.c3) hl hh rfl trivial app24 rfl rfl (by repeat (first | exact find_head | apply find_tail | apply find_skip)) (hh.mem _ _ (Find.mem (by repeat (first | exact find_head | apply find_tail | apply find_skip)))) (by omega) (by rw [List.length_append, fl_len c3_len, List.length_append, List.length_drop]; omega) (by rfl) rfl rfl (dr_put (by omega)) ?_)
        clear hl hh a w; intro a w hl hh
        refine wl (wl_val hl rfl trivial (r_assign hl rfl) ?_)
        clear hl a; intro a hl
        refine w_nil ?_
        have hl2 := hl.add (t := 0) (hl.add (t := 3) (hl.add (t := 8) (hl.add (t := 9) (hl.add (t := 10) (hl.nil) rfl) rfl) rfl) rfl) rfl; clear hl; have hl := hl2; clear hl2
        refine blk_normal ?_
        refine then_normal ?_
        refine c_region ?_
        first | refine wl (wl_val hl rfl trivial (r_add hl rfl rfl (by simp only [Fits]; omega)) ?_) | refine wl (wl_val hl rfl trivial (r_addW hl rfl rfl) ?_)
        clear hl a; intro a hl
        refine wl (wl_val hl rfl trivial (r_move hl rfl) ?_)
        clear hl a; intro a hl
        refine w_nil ?_
        have hl2 := hl.add (t := 0) (hl.add (t := 3) (hl.add (t := 8) (hl.add (t := 9) (hl.add (t := 10) (hl.nil) rfl) rfl) rfl) rfl) rfl; clear hl; have hl := hl2; clear hl2
        refine then_normal ?_
        refine ⟨⟨z.k ++ [x], z.i + 1⟩, (by simp only; omega), hz.add hx hdr, hl.addE (t := 10) (hl.addE (t := 3) (hl.addE (t := 0) (hl.addE (t := 8) (hl.addE (t := 9) (hl.nil) rfl (by first | rfl | exact congrArg (Value.int .i64) (show (z.i : Int) + 1 = ((z.i + 1 : Nat) : Int) by omega) | (simp only [List.length_append, List.length_singleton]; done))) rfl (by first | rfl | exact congrArg (Value.int .i64) (show (z.i : Int) + 1 = ((z.i + 1 : Nat) : Int) by omega) | (simp only [List.length_append, List.length_singleton]; done))) rfl (by first | rfl | exact congrArg (Value.int .i64) (show (z.i : Int) + 1 = ((z.i + 1 : Nat) : Int) by omega) | (simp only [List.length_append, List.length_singleton]; done))) rfl (by first | rfl | exact congrArg (Value.int .i64) (show (z.i : Int) + 1 = ((z.i + 1 : Nat) : Int) by omega) | (simp only [List.length_append, List.length_singleton]; done))) rfl (by first | rfl | exact congrArg (Value.int .i64) (show (z.i : Int) + 1 = ((z.i + 1 : Nat) : Int) by omega) | (simp only [List.length_append, List.length_singleton]; done)), hh.keep (by repeat (first | exact keeps_nil | apply keeps_cons (by repeat (first | exact find_head | apply find_tail | apply find_skip)) (by first  | rfl) | exact keeps_self | exact keeps_left | apply keeps_app | apply keeps_mv | apply keeps_skip))⟩
      · intro hc1
        try simp only [decide_eq_true_eq, decide_eq_false_iff_not, Bool.not_eq_true', Bool.not_eq_false', Bool.not_eq_true, Bool.not_eq_false, Bool.and_eq_true, Bool.or_eq_true, Bool.and_eq_false_iff, Bool.or_eq_false_iff, Bool.not_not, ne_eq, Int.not_lt, Int.not_le, Decidable.not_not, beq_iff_eq, bne_iff_ne] at hc1
        have hdr : drK z.k x = z.k := by
          first
          | (exfalso; simp_all; done)
          | (rw [drK_some hnk hy, if_pos hc1])
        refine wp_skip ?_
        refine blk_normal ?_
        refine then_normal ?_
        refine c_region ?_
        first | refine wl (wl_val hl rfl trivial (r_add hl rfl rfl (by simp only [Fits]; omega)) ?_) | refine wl (wl_val hl rfl trivial (r_addW hl rfl rfl) ?_)
        clear hl a; intro a hl
        refine wl (wl_val hl rfl trivial (r_move hl rfl) ?_)
        clear hl a; intro a hl
        refine w_nil ?_
        have hl2 := hl.add (t := 0) (hl.add (t := 3) (hl.add (t := 8) (hl.add (t := 9) (hl.add (t := 10) (hl.nil) rfl) rfl) rfl) rfl) rfl; clear hl; have hl := hl2; clear hl2
        refine then_normal ?_
        refine ⟨⟨z.k, z.i + 1⟩, (by simp only; omega), hz.keep hx hdr, hl.addE (t := 10) (hl.addE (t := 3) (hl.addE (t := 0) (hl.addE (t := 8) (hl.addE (t := 9) (hl.nil) rfl (by first | rfl | exact congrArg (Value.int .i64) (show (z.i : Int) + 1 = ((z.i + 1 : Nat) : Int) by omega) | (simp only [List.length_append, List.length_singleton]; done))) rfl (by first | rfl | exact congrArg (Value.int .i64) (show (z.i : Int) + 1 = ((z.i + 1 : Nat) : Int) by omega) | (simp only [List.length_append, List.length_singleton]; done))) rfl (by first | rfl | exact congrArg (Value.int .i64) (show (z.i : Int) + 1 = ((z.i + 1 : Nat) : Int) by omega) | (simp only [List.length_append, List.length_singleton]; done))) rfl (by first | rfl | exact congrArg (Value.int .i64) (show (z.i : Int) + 1 = ((z.i + 1 : Nat) : Int) by omega) | (simp only [List.length_append, List.length_singleton]; done))) rfl (by first | rfl | exact congrArg (Value.int .i64) (show (z.i : Int) + 1 = ((z.i + 1 : Nat) : Int) by omega) | (simp only [List.length_append, List.length_singleton]; done)), hh.keep (by repeat (first | exact keeps_nil | apply keeps_cons (by repeat (first | exact find_head | apply find_tail | apply find_skip)) (by first  | rfl) | exact keeps_self | exact keeps_left | apply keeps_app | apply keeps_mv | apply keeps_skip))⟩
  · intro hc0
    try simp only [decide_eq_true_eq, decide_eq_false_iff_not, Bool.not_eq_true', Bool.not_eq_false', Bool.not_eq_true, Bool.not_eq_false, Bool.and_eq_true, Bool.or_eq_true, Bool.and_eq_false_iff, Bool.or_eq_false_iff, Bool.not_not, ne_eq, Int.not_lt, Int.not_le, Decidable.not_not, beq_iff_eq, bne_iff_ne] at hc0
    have hie : z.i = l0.length := by omega
    refine wp_exit ?_
    refine then_exit ?_
    refine then_exit ?_
    refine blk_exit ?_
    refine then_normal ?_
    refine c_seq ?_
    refine c_region ?_
    refine wl (wl_val hl rfl trivial (r_move hl rfl) ?_)
    clear hl a; intro a hl
    refine wl (wl_val hl rfl trivial (r_move hl rfl) ?_)
    clear hl a; intro a hl
    refine wl (wl_val hl rfl trivial (r_lenS hl rfl slc24) ?_)
    clear hl a; intro a hl
    refine wl (wl_val hl rfl trivial (r_sliceS10y hl rfl rfl slc24 (by omega) (Int.toNat_natCast _)) ?_)
    clear hl a; intro a hl
    rw [dr_if] at hl
    refine wl (w_clear hl hh trivial app24 zero57 (by rfl) rfl (by repeat (first | exact find_head | apply find_tail | apply find_skip)) (by rw [List.length_append, fl_len c3_len, List.length_append, List.length_drop]; split <;> omega) ?_)
    clear hh w; intro zs w hzs hh
    refine w_nil ?_
    have hl2 := hl.add (t := 3) (hl.nil) rfl; clear hl; have hl := hl2; clear hl2
    rw [dr_clr2 (by omega) hjc hzs] at hh
    refine then_normal ?_
    refine c_seq ?_
    refine c_region ?_
    refine wl (wl_val hl rfl trivial (r_move hl rfl) ?_)
    clear hl a; intro a hl
    refine wl (wl_val hl rfl trivial (r_assign hl rfl) ?_)
    clear hl a; intro a hl
    refine w_nil ?_
    have hl2 := hl.add (t := 2) (hl.nil) rfl; clear hl; have hl := hl2; clear hl2
    refine then_normal ?_
    refine wp_ret ?_
    refine f_ret1 (F' := [(b, C (fl RV.c3 z.k ++ (zs ++ junk)) 57)]) hl hh rfl rfl (by repeat (first | exact keeps_nil | apply keeps_cons (by repeat (first | exact find_head | apply find_tail | apply find_skip)) (by first  | rfl) | exact keeps_self | exact keeps_left | apply keeps_app | apply keeps_mv | apply keeps_skip)) ?_
    have hke : z.k = drL l0 := by rw [hz.e, hie, List.take_length]
    rw [← hke]
    exact ⟨rfl, .inr ⟨b, c, zs ++ junk, rfl, by rw [fl_len c3_len], by rw [List.length_append, List.length_append, fl_len c3_len, hzs]; omega, by omega, rfl⟩⟩

set_option maxHeartbeats 1000000 in
theorem mx_spec (l : List Pd) (p : Option Addr) (c : Nat) (E : List (Nat × Obj)) (hR : Row (.slice p l.length c) l.length (fl pdc l) 3 93 E) (hl1 : l.length ≤ 100000000) (hs1 : ∀ x, x ∈ l → x.s ≤ 100000000) : SpK Tryz.prog 30 #[.slice p l.length c] (Mem E) [] (fun v F' => v = .int .i64 (stMx l : Int) ∧ F' = []) := by
  refine f_enter (args := [.slice p l.length c]) Tryz.func30 rfl Tryz.ntmps30 rfl ?_
  intro w0 w a hpre hl hh
  simp only [slotsFrom, Nat.reduceAdd] at hl
  refine c_seq ?_
  refine c_region ?_
  refine wl (wl_val hl rfl trivial (r_assign hl rfl) ?_)
  clear hl a; intro a hl
  refine w_nil ?_
  have hl2 := hl.add (t := 0) (hl.nil) rfl; clear hl; have hl := hl2; clear hl2
  refine then_normal ?_
  refine c_seq ?_
  refine c_region ?_
  refine wl (wl_val hl rfl trivial (r_assign hl rfl) ?_)
  clear hl a; intro a hl
  refine w_nil ?_
  have hl2 := hl.add (t := 0) (hl.add (t := 3) (hl.nil) rfl) rfl; clear hl; have hl := hl2; clear hl2
  refine then_normal ?_
  refine c_seq ?_
  refine c_seq ?_
  refine c_region ?_
  refine wl (wl_val hl rfl trivial (r_move hl rfl) ?_)
  clear hl a; intro a hl
  refine wl (wl_val hl rfl trivial (r_lenS hl rfl slc31) ?_)
  clear hl a; intro a hl
  refine wl (wl_val hl rfl trivial (r_move hl rfl) ?_)
  clear hl a; intro a hl
  refine w_nil ?_
  have hl2 := hl.add (t := 3) (hl.add (t := 6) (hl.add (t := 7) (hl.add (t := 8) (hl.nil) rfl) rfl) rfl) rfl; clear hl; have hl := hl2; clear hl2
  refine then_normal ?_
  refine wp_block ?_
  obtain ⟨KS0, hKS0, hk⟩ := (hl.add (t := 6) (hl.add (t := 7) (hl.nil) rfl) rfl).name
  obtain ⟨HS0, hHS0, hh2⟩ := hh.name (keeps_nil)
  refine c_loop (α := Nat) (fun i => l.length - i) (fun i a w => (i ≤ l.length) ∧ Sl 19 ([(8, .int .i64 (i : Int)), (3, .int .i64 (stMx (l.take i) : Int))] ++ KS0) a ∧ Has _ w0 ([] ++ HS0) w) 0 ⟨Nat.zero_le _, hl.addE (t := 8) (hl.addE (t := 3) (hk) rfl (by first | rfl)) rfl (by first | rfl), hh2⟩ ?_
  clear hk hh2 hl hh a w
  intro i a w hI
  obtain ⟨hi, hl, hh⟩ := hI
  subst hKS0; subst hHS0
  simp only [List.cons_append, List.nil_append, List.append_nil] at hl hh
  refine c_seq ?_
  refine c_region ?_
  refine wl (wl_val hl rfl trivial (r_lss hl rfl rfl) ?_)
  clear hl a; intro a hl
  refine w_nil ?_
  have hl2 := hl.add (t := 3) (hl.add (t := 6) (hl.add (t := 7) (hl.add (t := 8) (hl.add (t := 9) (hl.nil) rfl) rfl) rfl) rfl) rfl; clear hl; have hl := hl2; clear hl2
  refine then_normal ?_
  refine c_seq ?_
  refine c_cond hl rfl ?_ ?_
  · intro hc0
    try simp only [decide_eq_true_eq, decide_eq_false_iff_not, Bool.not_eq_true', Bool.not_eq_false', Bool.not_eq_true, Bool.not_eq_false, Bool.and_eq_true, Bool.or_eq_true, Bool.and_eq_false_iff, Bool.or_eq_false_iff, Bool.not_not, ne_eq, Int.not_lt, Int.not_le, Decidable.not_not, beq_iff_eq, bne_iff_ne] at hc0
    obtain ⟨x, hx⟩ : ∃ x, l[i]? = some x := ⟨_, List.getElem?_eq_getElem (by omega)⟩
    have hxs := hs1 x (List.mem_of_getElem? hx)
    obtain ⟨b1, j1, hq1, hE1, hm1⟩ := row_mem hR (by omega) hpre
    rw [hq1] at hl
    have hd1 := fl_at pdc_len hx j1
    simp only [pdc] at hd1
    refine wp_skip ?_
    refine then_normal ?_
    refine c_seq ?_
    refine wp_block ?_
    refine c_seq ?_
    refine c_region ?_
    refine wl (wl_val hl rfl trivial (r_indexS hl rfl rfl slc31 (by omega) (by omega) (by first | (simp only [Int.reduceToNat]; rfl) | exact toNat_add1 _ | exact toNat_add2 _ _ | exact toNat_emod _ _ | exact Int.toNat_natCast _ | rfl)) ?_)
    clear hl a; intro a hl
    first | refine wl (w_loadA hl hh rfl trivial agg93 rfl (by repeat (first | exact find_head | apply find_tail)) (by first | (simp only [List.getElem?_cons_zero, List.getElem?_cons_succ, Value.cells, List.take_zero, List.take_succ_cons, List.take_nil, List.drop_zero, List.drop_succ_cons, List.drop_nil, List.length_cons, List.length_nil, List.cons_append, List.nil_append, List.append_nil, Nat.zero_add, Nat.add_zero, Nat.reduceAdd, Nat.reduceBEq, Nat.reduceEqDiff, Nat.ble, BEq.rfl, Bool.and_true, Bool.and_self, cond_true, beq_self_eq_true]; rfl)) (by first | rfl | (simp; done)) ?_) | refine wl (w_loadRA hl hh rfl trivial agg93 rfl hm1 (by simp) hd1 rfl ?_)
    clear hl a; intro a hl
    refine wl (w_alloc hl hh rfl trivial zero93 rfl ?_)
    clear hl hh a w; intro k5 a w hl hh
    refine wl (w_storeA hl hh trivial agg93 rfl rfl (by repeat (first | exact find_head | apply find_tail)) (by first | rfl | (simp; done)) (by first | (simp; done) | (simp; omega)) (by first | rfl | (simp; done)) (by first | (simp only [setL, List.getElem?_cons_zero, List.getElem?_cons_succ, Value.cells, List.take_zero, List.take_succ_cons, List.take_nil, List.drop_zero, List.drop_succ_cons, List.drop_nil, List.length_cons, List.length_nil, List.cons_append, List.nil_append, List.append_nil, Nat.zero_add, Nat.add_zero, Nat.reduceAdd, Nat.reduceBEq, Nat.reduceEqDiff, Nat.ble, BEq.rfl, Bool.and_true, Bool.and_self, cond_true, beq_self_eq_true]; rfl)) ?_)
    clear hh w; intro w hh
    refine w_nil ?_
    have hl2 := hl.add (t := 3) (hl.add (t := 5) (hl.add (t := 6) (hl.add (t := 7) (hl.add (t := 8) (hl.nil) rfl) rfl) rfl) rfl) rfl; clear hl; have hl := hl2; clear hl2
    refine then_normal ?_
    refine c_region ?_
    refine wl (wl_val hl rfl trivial (r_move hl rfl) ?_)
    clear hl a; intro a hl
    refine wl (wl_val hl rfl trivial (r_field hl rfl fld93_2) ?_)
    clear hl a; intro a hl
    refine wl (w_load hl hh rfl trivial one3 rfl (by repeat (first | exact find_head | apply find_tail)) (by first | rfl) ?_)
    clear hl a; intro a hl
    first | refine wl (wl_val hl rfl trivial (r_add hl rfl rfl (by simp only [Fits]; omega)) ?_) | refine wl (wl_val hl rfl trivial (r_addW hl rfl rfl) ?_)
    clear hl a; intro a hl
    refine wl (wl_val hl rfl trivial (r_maxI hl rfl rfl) ?_)
    clear hl a; intro a hl
    refine wl (wl_val hl rfl trivial (r_assign hl rfl) ?_)
    clear hl a; intro a hl
    refine w_nil ?_
    have hl2 := hl.add (t := 3) (hl.add (t := 6) (hl.add (t := 7) (hl.add (t := 8) (hl.nil) rfl) rfl) rfl) rfl; clear hl; have hl := hl2; clear hl2
    refine blk_normal ?_
    refine then_normal ?_
    refine c_region ?_
    first | refine wl (wl_val hl rfl trivial (r_add hl rfl rfl (by simp only [Fits]; omega)) ?_) | refine wl (wl_val hl rfl trivial (r_addW hl rfl rfl) ?_)
    clear hl a; intro a hl
    refine wl (wl_val hl rfl trivial (r_move hl rfl) ?_)
    clear hl a; intro a hl
    refine w_nil ?_
    have hl2 := hl.add (t := 3) (hl.add (t := 6) (hl.add (t := 7) (hl.add (t := 8) (hl.nil) rfl) rfl) rfl) rfl; clear hl; have hl := hl2; clear hl2
    refine then_normal ?_
    refine ⟨i + 1, (by omega), (by omega), hl.addE (t := 8) (hl.addE (t := 3) (hl.addE (t := 6) (hl.addE (t := 7) (hl.nil) rfl (by first | rfl | exact congrArg (Value.int .i64) (show (i : Int) + 1 = ((i + 1 : Nat) : Int) by omega) | (rw [hq1]) | (rw [stMx_snoc hx]; congr 1; omega))) rfl (by first | rfl | exact congrArg (Value.int .i64) (show (i : Int) + 1 = ((i + 1 : Nat) : Int) by omega) | (rw [hq1]) | (rw [stMx_snoc hx]; congr 1; omega))) rfl (by first | rfl | exact congrArg (Value.int .i64) (show (i : Int) + 1 = ((i + 1 : Nat) : Int) by omega) | (rw [hq1]) | (rw [stMx_snoc hx]; congr 1; omega))) rfl (by first | rfl | exact congrArg (Value.int .i64) (show (i : Int) + 1 = ((i + 1 : Nat) : Int) by omega) | (rw [hq1]) | (rw [stMx_snoc hx]; congr 1; omega)), hh.keep (by repeat (first | exact keeps_nil | apply keeps_cons (by repeat (first | exact find_head | apply find_tail)) (by first  | rfl) | exact keeps_self | apply keeps_mv))⟩
  · intro hc0
    try simp only [decide_eq_true_eq, decide_eq_false_iff_not, Bool.not_eq_true', Bool.not_eq_false', Bool.not_eq_true, Bool.not_eq_false, Bool.and_eq_true, Bool.or_eq_true, Bool.and_eq_false_iff, Bool.or_eq_false_iff, Bool.not_not, ne_eq, Int.not_lt, Int.not_le, Decidable.not_not, beq_iff_eq, bne_iff_ne] at hc0
    have hie : i = l.length := by omega
    rw [hie, List.take_length] at hl
    refine wp_exit ?_
    refine then_exit ?_
    refine then_exit ?_
    refine blk_exit ?_
    refine then_normal ?_
    refine c_seq ?_
    refine c_region ?_
    refine wl (wl_val hl rfl trivial (r_move hl rfl) ?_)
    clear hl a; intro a hl
    refine wl (wl_val hl rfl trivial (r_assign hl rfl) ?_)
    clear hl a; intro a hl
    refine w_nil ?_
    have hl2 := hl.add (t := 2) (hl.nil) rfl; clear hl; have hl := hl2; clear hl2
    refine then_normal ?_
    refine wp_ret ?_
    refine f_ret1 (F' := []) hl hh rfl rfl (by repeat (first | exact keeps_nil | apply keeps_cons (by repeat (first | exact find_head | apply find_tail)) (by first  | rfl) | exact keeps_self | apply keeps_mv)) ?_
    exact ⟨rfl, rfl⟩
end Go.Proofs.Qxb6500915aGreatDoor

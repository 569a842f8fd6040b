import Derived.Test.Qxb6500907aR29
namespace Go.Proofs.Qxb6500907a
open Go.Eng
set_option linter.unusedVariables false
set_option linter.unusedSimpArgs false

/-! ## a copy of a map, entry by entry -/
structure CpI (l vis l' : List (ME PK)) : Prop where
  sub : ∀ p, p ∈ vis → p ∈ l
  nd : (vis.map ME.bo).Nodup
  kv : l'.map kvM = vis.map kvM
  bo : l'.map ME.bo = List.range l'.length
theorem CpI.nil (l : List (ME PK)) : CpI l [] [] := ⟨fun _ h => by simp at h, by simp, rfl, rfl⟩
theorem nd_of_map {α β : Type} {f : α → β} {l : List α} (h : (l.map f).Nodup) : l.Nodup := by
  rw [List.Nodup, List.pairwise_map] at h
  exact h.imp fun h e => h (by rw [e])
theorem inj_of_nd {α β : Type} {f : α → β} {l : List α} (h : (l.map f).Nodup) {p q : α} (hp : p ∈ l) (hq : q ∈ l) (e : f p = f q) : p = q := by
  induction l with
  | nil => simp at hp
  | cons x l ih =>
    rw [List.map_cons, List.nodup_cons] at h
    rcases List.mem_cons.1 hp with h1 | h1
    · rcases List.mem_cons.1 hq with h2 | h2
      · rw [h1, h2]
      · rw [h1] at e
        exact absurd (List.mem_map.2 ⟨q, h2, e.symm⟩) h.1
    · rcases List.mem_cons.1 hq with h2 | h2
      · rw [h2] at e
        exact absurd (List.mem_map.2 ⟨p, h1, e⟩) h.1
      · exact ih h.2 h1 h2
theorem CpI.step {l vis l' : List (ME PK)} (h : CpI l vis l') {p : ME PK} (hp : p ∈ l) (hn : p.bo ∉ vis.map ME.bo) : CpI l (vis ++ [p]) (l' ++ [⟨p.ky, p.vl, l'.length⟩]) where
  sub := fun q hq => by
    rcases List.mem_append.1 hq with hq | hq
    · exact h.sub q hq
    · rw [List.mem_singleton.1 hq]; exact hp
  nd := by
    rw [List.map_append]
    refine List.nodup_append.2 ⟨h.nd, by simp, fun x hx y hy e => ?_⟩
    have : y = p.bo := by simpa using hy
    rw [e, this] at hx
    exact hn hx
  kv := by rw [List.map_append, List.map_append, h.kv]; rfl
  bo := by rw [List.map_append, h.bo, List.length_append]; simp [List.range_succ]
theorem CpI.lt {l vis l' : List (ME PK)} (h : CpI l vis l') {p : ME PK} (hp : p ∈ l) (hn : p.bo ∉ vis.map ME.bo) : vis.length < l.length := by
  have h1 := (h.step hp hn)
  have h2 := List.Nodup.length_le_of_subset (nd_of_map h1.nd) (fun q hq => h1.sub q hq)
  rw [List.length_append] at h2
  simp at h2
  omega
theorem CpI.fresh {l vis l' : List (ME PK)} (h : CpI l vis l') (hk : (l.map ME.ky).Nodup) {p : ME PK} (hp : p ∈ l) (hn : p.bo ∉ vis.map ME.bo) : dfind l' p.ky = none := by
  cases e : dfind l' p.ky with
  | none => rfl
  | some x =>
    obtain ⟨i, v⟩ := x
    obtain ⟨q, h1, h2, h3⟩ := dfind_at e
    have h4 : kvM q ∈ l'.map kvM := List.mem_map.2 ⟨q, List.mem_of_getElem? h1, rfl⟩
    rw [h.kv] at h4
    obtain ⟨r, h5, h6⟩ := List.mem_map.1 h4
    have h7 : r.ky = p.ky := by unfold kvM at h6; injection h6 with h6 _; rw [h6, h2]
    have h8 := inj_of_nd hk (h.sub r h5) hp h7
    rw [← h8] at hn
    exact absurd (List.mem_map.2 ⟨r, h5, rfl⟩) hn
theorem CpI.done {l vis l' : List (ME PK)} {nb : Nat} {rs : List Rt} (h : CpI l vis l') (hl : DRel l nb rs) (ha : ∀ p, p ∈ l → p.bo ∈ vis.map ME.bo) : DRel l' l'.length rs where
  lt := fun p hp => by
    have h1 : p.bo ∈ l'.map ME.bo := List.mem_map.2 ⟨p, hp, rfl⟩
    rw [h.bo] at h1
    exact List.mem_range.1 h1
  nd := by rw [h.bo]; exact List.nodup_range
  pm := by
    have h1 : vis.Perm l := (List.perm_ext_iff_of_nodup (nd_of_map h.nd) (nd_of_map hl.nd)).2 fun p => ⟨h.sub p, fun hp => by
      obtain ⟨q, h2, h3⟩ := List.mem_map.1 (ha p hp)
      rw [← inj_of_nd hl.nd (h.sub q h2) hp h3]
      exact h2⟩
    rw [h.kv]
    exact (h1.map kvM).trans hl.pm
/-- a model network lies in memory -/
structure NetM (kn : Nat) (N : Nw) (P : Pl) (Z : List (Nat × Obj)) : Prop where
  nr : NwR N P
  blk : (kn, C N.cells 116) ∈ Z
  map : ∀ d, d < 16 → (N.mb d, MD pkV (N.rs d) (N.nb d)) ∈ Z
  acl : ∀ d, d < 16 → ∃ Ea, RowA (N.av d) (P.al d) Ea ∧ ∀ x, x ∈ Ea → x ∈ Z
theorem NetM.mono {kn : Nat} {N : Nw} {P : Pl} {Z Z' : List (Nat × Obj)} (h : NetM kn N P Z) (hz : ∀ x, x ∈ Z → x ∈ Z') : NetM kn N P Z' :=
  ⟨h.nr, hz _ h.blk, fun d hd => hz _ (h.map d hd), fun d hd => by obtain ⟨Ea, h1, h2⟩ := h.acl d hd; exact ⟨Ea, h1, fun x hx => hz _ (h2 x hx)⟩⟩
/-- the blocks of a model network that is owned -/
def nwB (N : Nw) (f : Nat → List (Nat × Obj)) : Nat → List (Nat × Obj) := fun d => (N.mb d, MD pkV (N.rs d) (N.nb d)) :: f d
def OwnM (kn : Nat) (N : Nw) (f : Nat → List (Nat × Obj)) : List (Nat × Obj) := (kn, C N.cells 116) :: tabX (nwB N f)
theorem own_net {kn : Nat} {N : Nw} {P : Pl} {f : Nat → List (Nat × Obj)} (h : NwR N P) (ha : ∀ d, d < 16 → RowA (N.av d) (P.al d) (f d)) : NetM kn N P (OwnM kn N f) :=
  ⟨h, List.mem_cons_self, fun d hd => List.mem_cons_of_mem _ (tab_mem hd List.mem_cons_self), fun d hd => ⟨f d, ha d hd, fun x hx => List.mem_cons_of_mem _ (tab_mem hd (List.mem_cons_of_mem _ hx))⟩⟩
theorem flat_one {α : Type} (g : Nat → α) (l : List Nat) : l.flatMap (fun d => [g d]) = l.map g := by
  induction l with
  | nil => rfl
  | cons x l ih => rw [List.flatMap_cons, ih]; rfl
theorem mpB_tab (N : Nw) : mpB N.mb N.rs N.nb 16 = tabX (nwB N fun _ => []) := by
  unfold mpB tabX nwB
  rw [flat_one]
theorem nwB_upd (N : Nw) (f : Nat → List (Nat × Obj)) (d : Nat) (l : List (ME PK)) (n : Nat) (av : Nat → Value) (ifc lk : Nat → Nat → Bool) (E : List (Nat × Obj)) : nwB { N with rs := upd N.rs d l, nb := upd N.nb d n, av := av, ifc := ifc, lk := lk } (upd f d E) = upd (nwB N f) d ((N.mb d, MD pkV l n) :: E) := by
  funext j
  unfold nwB
  by_cases e : j = d
  · rw [e, upd_same]; simp only [upd_same]
  · rw [upd_other _ _ e]; simp only [upd_other _ _ e]
/-- the state of the copying loop -/
structure CpS where
  i : Nat
  N : Nw
  f : Nat → List (Nat × Obj)
structure KI (P : Pl) (mb : Nat → Nat) (s : CpS) : Prop where
  hi : s.i ≤ 16
  mbe : s.N.mb = mb
  dn : ∀ d, d < s.i → DRel (s.N.rs d) (s.N.nb d) (P.rs d) ∧ RowA (s.N.av d) (P.al d) (s.f d)
  un : ∀ d, s.i ≤ d → s.N.rs d = [] ∧ s.N.nb d = 0 ∧ s.N.av d = .slice none 0 0 ∧ s.f d = []
def Cp0 (mb : Nat → Nat) : CpS := ⟨0, ⟨mb, nilV, fun _ => [], fun _ => 0, noB, noB⟩, fun _ => []⟩
def CpN (s : CpS) (l : List (ME PK)) (lv : Value) (E : List (Nat × Obj)) : CpS := ⟨s.i + 1, { s.N with rs := upd s.N.rs s.i l, nb := upd s.N.nb s.i l.length, av := upd s.N.av s.i lv }, upd s.f s.i E⟩
theorem KI.zero (P : Pl) (mb : Nat → Nat) : KI P mb (Cp0 mb) := ⟨Nat.zero_le _, rfl, fun d h => absurd h (Nat.not_lt_zero _), fun d _ => ⟨rfl, rfl, rfl, rfl⟩⟩
theorem KI.next {P : Pl} {mb : Nat → Nat} {s : CpS} (h : KI P mb s) (hi : s.i < 16) {l : List (ME PK)} {lv : Value} {E : List (Nat × Obj)} (hD : DRel l l.length (P.rs s.i)) (hR : RowA lv (P.al s.i) E) : KI P mb (CpN s l lv E) where
  hi := hi
  mbe := h.mbe
  dn := fun d hd => by
    change d < s.i + 1 at hd
    show DRel (upd s.N.rs s.i l d) (upd s.N.nb s.i l.length d) (P.rs d) ∧ RowA (upd s.N.av s.i lv d) (P.al d) (upd s.f s.i E d)
    by_cases e : d = s.i
    · rw [e, upd_same, upd_same, upd_same, upd_same]; exact ⟨hD, hR⟩
    · rw [upd_other _ _ e, upd_other _ _ e, upd_other _ _ e, upd_other _ _ e]; exact h.dn d (by omega)
  un := fun d hd => by
    change s.i + 1 ≤ d at hd
    show upd s.N.rs s.i l d = [] ∧ upd s.N.nb s.i l.length d = 0 ∧ upd s.N.av s.i lv d = .slice none 0 0 ∧ upd s.f s.i E d = []
    have e : d ≠ s.i := by omega
    rw [upd_other _ _ e, upd_other _ _ e, upd_other _ _ e, upd_other _ _ e]; exact h.un d (by omega)
theorem dev_here {s : CpS} {P : Pl} {mb : Nat → Nat} (h : KI P mb s) : nwB s.N s.f s.i = [(s.N.mb s.i, MD pkV [] 0)] := by
  obtain ⟨h1, h2, _, h4⟩ := h.un s.i (Nat.le_refl _)
  unfold nwB
  rw [h1, h2, h4]
theorem nm_ifb {mb : Nat → Value} {av : Nat → Value} {ifc lk : Nat → Nat → Bool} : ((arrL 544 (nmC mb av ifc lk)).drop (0 + 32)).take 256 = arrL 256 fun j => .bool (ifc (j / 16) (j % 16)) := by
  refine List.ext_getElem? fun i => ?_
  by_cases h : i < 256
  · rw [List.getElem?_take_of_lt h, List.getElem?_drop, arrL_get (by omega), arrL_get h]
    unfold nmC
    rw [if_neg (by omega), if_neg (by omega), if_pos (by omega), show 0 + 32 + i - 32 = i by omega]
  · rw [List.getElem?_eq_none (by rw [List.length_take, List.length_drop, arrL_length]; omega), List.getElem?_eq_none (by rw [arrL_length]; omega)]
theorem nm_lkb {mb : Nat → Value} {av : Nat → Value} {ifc lk : Nat → Nat → Bool} : ((arrL 544 (nmC mb av ifc lk)).drop (0 + 288)).take 256 = arrL 256 fun j => .bool (lk (j / 16) (j % 16)) := by
  refine List.ext_getElem? fun i => ?_
  by_cases h : i < 256
  · rw [List.getElem?_take_of_lt h, List.getElem?_drop, arrL_get (by omega), arrL_get h]
    unfold nmC
    rw [if_neg (by omega), if_neg (by omega), if_neg (by omega), show 0 + 288 + i - 288 = i by omega]
  · rw [List.getElem?_eq_none (by rw [List.length_take, List.length_drop, arrL_length]; omega), List.getElem?_eq_none (by rw [arrL_length]; omega)]
theorem bools_one (g : Nat → Bool) : (arrL 256 fun j => .bool (g j)).all (·.oneCell') = true := by
  unfold arrL
  rw [List.all_map]
  simp [Value.oneCell']
theorem setL_get {n m o : Nat} {f g : Nat → Value} (h : o + m ≤ n) : setL (arrL n f) o (arrL m g) = arrL n fun j => if o ≤ j ∧ j < o + m then g (j - o) else f j := by
  refine List.ext_getElem? fun i => ?_
  unfold setL
  rw [List.append_assoc, arrL_length]
  by_cases h1 : i < o
  · rw [List.getElem?_append_left (by rw [List.length_take, arrL_length]; omega), List.getElem?_take_of_lt h1, arrL_get (by omega), arrL_get (by omega), if_neg (by omega)]
  · by_cases h2 : i < o + m
    · rw [List.getElem?_append_right (by rw [List.length_take, arrL_length]; omega), List.length_take, arrL_length, Nat.min_eq_left (by omega), List.getElem?_append_left (by rw [arrL_length]; omega), arrL_get (by omega), arrL_get (by omega), if_pos (by omega)]
    · by_cases h3 : i < n
      · rw [List.getElem?_append_right (by rw [List.length_take, arrL_length]; omega), List.length_take, arrL_length, Nat.min_eq_left (by omega), List.getElem?_append_right (by rw [arrL_length]; omega), arrL_length, List.getElem?_drop, arrL_get (by omega), arrL_get (by omega), if_neg (by omega)]
        congr 2
        omega
      · rw [List.getElem?_eq_none, List.getElem?_eq_none]
        · rw [arrL_length]; omega
        · rw [List.length_append, List.length_append, List.length_take, List.length_drop, arrL_length, arrL_length]; omega
theorem nm_sifb {mb : Nat → Value} {av : Nat → Value} {ifc lk g : Nat → Nat → Bool} : setL (arrL 544 (nmC mb av ifc lk)) (0 + 32) (arrL 256 fun j => .bool (g (j / 16) (j % 16))) = arrL 544 (nmC mb av g lk) := by
  rw [setL_get (by omega)]
  refine arr_ext fun i hi => ?_
  unfold nmC
  by_cases h : 0 + 32 ≤ i ∧ i < 0 + 32 + 256
  · rw [if_pos h, if_neg (by omega), if_neg (by omega), if_pos (by omega), show i - (0 + 32) = i - 32 by omega]
  · rw [if_neg h]
    by_cases c1 : i < 16
    · rw [if_pos c1, if_pos c1]
    rw [if_neg c1, if_neg c1]
    by_cases c2 : i < 32
    · rw [if_pos c2, if_pos c2]
    rw [if_neg c2, if_neg c2, if_neg (by omega), if_neg (by omega)]
theorem nm_slkb {mb : Nat → Value} {av : Nat → Value} {ifc lk g : Nat → Nat → Bool} : setL (arrL 544 (nmC mb av ifc lk)) (0 + 288) (arrL 256 fun j => .bool (g (j / 16) (j % 16))) = arrL 544 (nmC mb av ifc g) := by
  rw [setL_get (by omega)]
  refine arr_ext fun i hi => ?_
  unfold nmC
  by_cases h : 0 + 288 ≤ i ∧ i < 0 + 288 + 256
  · rw [if_pos h, if_neg (by omega), if_neg (by omega), if_neg (by omega), show i - (0 + 288) = i - 288 by omega]
  · rw [if_neg h]
    by_cases c1 : i < 16
    · rw [if_pos c1, if_pos c1]
    rw [if_neg c1, if_neg c1]
    by_cases c2 : i < 32
    · rw [if_pos c2, if_pos c2]
    rw [if_neg c2, if_neg c2, if_pos (by omega), if_pos (by omega)]
theorem has_pullA {D : List Nat} {w0 w : World} {A : List (Nat × Obj)} {f : Nat → List (Nat × Obj)} {d : Nat} (hd : d < 16) (h : Has D w0 (A ++ tabX f) w) : Has D w0 (A ++ (f d ++ tabX (upd f d []))) w :=
  h.perm (List.Perm.append_left A (tab_pull hd))
theorem keeps_right {A E : List (Nat × Obj)} : Keeps (A ++ E) E A := ⟨List.perm_append_comm⟩
theorem own_put {D : List Nat} {w0 w : World} {F G E : List (Nat × Obj)} {x y : Nat × Obj} {g : Nat → List (Nat × Obj)} {d : Nat} (hd : d < 16) (h : Has D w0 F w) (hk : Keeps F (x :: y :: (tabX (upd g d []) ++ E)) G) : Has D w0 (x :: tabX (upd g d (y :: E))) w := by
  refine (h.keep hk).perm (List.Perm.cons _ ?_)
  refine List.Perm.trans ?_ (tab_put (f := g) (X := y :: E) hd)
  rw [List.cons_append]
  exact List.Perm.cons _ List.perm_append_comm
theorem tabX_nil : tabX (fun _ => []) = [] := rfl
theorem own_put2 {D : List Nat} {w0 w : World} {A B : List (Nat × Obj)} {x y : Nat × Obj} {f : Nat → List (Nat × Obj)} {d : Nat} (hd : d < 16) (h0 : f d = []) (h : Has D w0 (x :: y :: ((tabX f ++ A) ++ B)) w) : Has D w0 (x :: y :: tabX (upd f d (A ++ B))) w := by
  refine h.perm (List.Perm.cons _ (List.Perm.cons _ ?_))
  have h1 := tab_put (f := f) (X := A ++ B) hd
  have h2 : upd f d [] = f := by rw [← h0]; exact upd_self f d
  rw [h2] at h1
  refine List.Perm.trans ?_ h1
  rw [List.append_assoc]
  exact List.perm_append_comm

end Go.Proofs.Qxb6500907a

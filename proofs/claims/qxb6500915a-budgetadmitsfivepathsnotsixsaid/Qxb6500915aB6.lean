import Derived.Test.Qxb6500915aB5
namespace Go.Proofs.Qxb6500915a
open Go.Eng
set_option linter.unusedVariables false
set_option linter.unusedSimpArgs false
theorem app50 : appOk Try.prog 50 47 3 40 = true := by kernel_rfl
theorem agg61 : aggOk Try.prog 61 2 = true := by kernel_rfl
theorem fld61_0 : fieldOk Try.prog 61 0 0 = true := by kernel_rfl
theorem fld61_1 : fieldOk Try.prog 61 1 1 = true := by kernel_rfl
theorem cal11 : callable Try.prog 11 = true := by kernel_rfl
theorem app41 : appOk Try.prog 41 3 1 8 = true := by kernel_rfl
theorem zero47 : zeroOk Try.prog 47 (.agg #[(.int .u64 0), (.slice none 0 0), (.int .i64 0)]) := by unfold zeroOk; kernel_rfl
theorem bld47 : buildOk Try.prog 47 [(0, 1), (1, 1), (2, 1)] = true := by kernel_rfl
theorem agg47 : aggOk Try.prog 47 3 = true := by kernel_rfl
theorem has_drop2 {D : List Nat} {w0 w : World} {x y : Nat × Obj} {E G : List (Nat × Obj)} (h : Has D w0 (x :: y :: (E ++ G)) w) : Has D w0 (x :: y :: G) w :=
  (h.perm (show List.Perm _ ((x :: y :: G) ++ E) from (List.Perm.cons _ (List.Perm.cons _ List.perm_append_comm)))).keep (G := E) ⟨List.Perm.refl _⟩
/-- a twin among the picks just before -/
def twL (X : SX) (c : Core) (picks : List (Nat × Nat)) (p b : Nat × Nat) : Nat → Bool
  | 0 => false
  | j + 1 => match picks[j]? with
    | some r => if r.1 = p.1 then (match X.body[r.2]? with | some a => if twinP X c.2.1 c.1 r.2 p.2 a b then true else twL X c picks p b j | none => false) else false
    | none => false
theorem twL_ne {X : SX} {c : Core} {picks : List (Nat × Nat)} {p b r : Nat × Nat} {j : Nat} (h : picks[j]? = some r) (hn : r.1 ≠ p.1) : twL X c picks p b (j + 1) = false := by unfold twL; rw [h]; simp [hn]
theorem twL_yes {X : SX} {c : Core} {picks : List (Nat × Nat)} {p b r a : Nat × Nat} {j : Nat} (h : picks[j]? = some r) (hn : r.1 = p.1) (ha : X.body[r.2]? = some a) (ht : twinP X c.2.1 c.1 r.2 p.2 a b = true) : twL X c picks p b (j + 1) = true := by unfold twL; rw [h]; simp [hn, ha, ht]
theorem twL_no {X : SX} {c : Core} {picks : List (Nat × Nat)} {p b r a : Nat × Nat} {j : Nat} (h : picks[j]? = some r) (hn : r.1 = p.1) (ha : X.body[r.2]? = some a) (ht : twinP X c.2.1 c.1 r.2 p.2 a b = false) : twL X c picks p b (j + 1) = twL X c picks p b j := by
  conv => lhs; unfold twL
  rw [h]; simp [hn, ha, ht]
def newC (c : Core) (li : Nat) (b : Nat × Nat) : Core := (bitsOf .or .u64 c.1 (sh64 li), (rdP c.2.1 c.2.2 [b.1, b.2]).1, (rdP c.2.1 c.2.2 [b.1, b.2]).2.1)
def fstep (X : SX) (cs : List Core) (picks : List (Nat × Nat)) (acc : List Core) (k : Nat) : List Core :=
  match picks[k]? with
  | some p => match cs[p.1]?, X.body[p.2]? with
    | some c, some b => if twL X c picks p b k then acc else acc ++ [newC c p.2 b]
    | _, _ => acc
  | none => acc
def followP (X : SX) (cs : List Core) (picks : List (Nat × Nat)) (k : Nat) : List Core := (List.range k).foldl (fstep X cs picks) []
theorem followP_yes {X : SX} {cs : List Core} {picks : List (Nat × Nat)} {k : Nat} {p b : Nat × Nat} {c : Core} (h1 : picks[k]? = some p) (h2 : cs[p.1]? = some c) (h3 : X.body[p.2]? = some b) (ht : twL X c picks p b k = true) : followP X cs picks (k + 1) = followP X cs picks k := by
  unfold followP; rw [List.range_succ, List.foldl_append]
  show fstep X cs picks _ k = _
  unfold fstep; rw [h1]; simp only [h2, h3, ht, if_true]
theorem followP_no {X : SX} {cs : List Core} {picks : List (Nat × Nat)} {k : Nat} {p b : Nat × Nat} {c : Core} (h1 : picks[k]? = some p) (h2 : cs[p.1]? = some c) (h3 : X.body[p.2]? = some b) (ht : twL X c picks p b k = false) : followP X cs picks (k + 1) = followP X cs picks k ++ [newC c p.2 b] := by
  unfold followP; rw [List.range_succ, List.foldl_append]
  show fstep X cs picks _ k = _
  unfold fstep; rw [h1]; simp [h2, h3, ht]
theorem tw_fin {X : SX} {c : Core} {picks : List (Nat × Nat)} {p b : Nat × Nat} {k jn : Nat} {tw : Bool} (h1 : tw = false → twL X c picks p b k = twL X c picks p b jn) (h2 : tw = true → twL X c picks p b k = true) (hx : tw = true ∨ jn = 0 ∨ ∃ j r, jn = j + 1 ∧ picks[j]? = some r ∧ r.1 ≠ p.1) : twL X c picks p b k = tw := by
  cases tw with
  | true => exact h2 rfl
  | false =>
    rw [h1 rfl]
    rcases hx with h | rfl | ⟨j, r, rfl, h3, h4⟩
    · cases h
    · rfl
    · exact twL_ne h3 h4
/-- the rest that is kept of a frontier's states -/
structure FrJ (bs : List SB) (r : Nat) : Prop where
  rd : ∀ s, s ∈ bs → s.nx ≤ 2 * r
  cp : ∀ s, s ∈ bs → (fl iI s.num ++ s.jn).length = s.nc * 1 ∧ s.num.length ≤ s.nc
structure FS where
  k : Nat
  nbs : List SB
  nv : Value
  En : List (Nat × Obj)
  Es : List (Nat × Obj)
def FS.tail (s : FS) : List (Nat × Obj) := s.En ++ s.Es
structure FSI (X : SX) (cs : List Core) (picks : List (Nat × Nat)) (r : Nat) (s : FS) : Prop where
  hk : s.k ≤ picks.length
  co : s.nbs.map SB.core = followP X cs picks s.k
  nl : s.nbs.length ≤ s.k
  row : Row s.nv s.nbs.length (fl SB.cells s.nbs) 3 47 s.En
  blk : ∀ b, b ∈ s.nbs → b.blk ∈ s.Es
  ok : ∀ b, b ∈ s.nbs → b.ok X.vs
  fj : FrJ s.nbs (r + 1)
theorem rd1_lt {num num' : List Int} {nx nx' : Int} {ou ou' : List Int} {v : Nat} (e : rd1 (num, nx, ou) v = (num', nx', ou')) (h : ∀ (j : Nat) (x : Int), num[j]? = some x → x < nx) : (∀ (j : Nat) (x : Int), num'[j]? = some x → x < nx') ∧ nx ≤ nx' ∧ nx' ≤ nx + 1 ∧ num'.length = num.length := by
  cases hz : num[v]? with
  | none =>
    have : rd1 (num, nx, ou) v = (num, nx, ou) := by unfold rd1; rw [hz]
    rw [this] at e
    injection e with e1 e2; injection e2 with e2 _
    subst e1; subst e2
    exact ⟨h, Int.le_refl _, by omega, rfl⟩
  | some z =>
    by_cases c : z = -1
    · rw [rd1_yes (s := (num, nx, ou)) hz c] at e
      injection e with e1 e2; injection e2 with e2 _
      simp only at e1 e2
      subst e1; subst e2
      refine ⟨fun j x hx => ?_, by omega, by omega, by simp⟩
      by_cases cj : j = v
      · subst cj
        rw [List.getElem?_set_self (List.getElem?_eq_some_iff.1 hz).1] at hx
        have : nx = x := Option.some.inj hx
        omega
      · rw [List.getElem?_set_ne (Ne.symm cj)] at hx
        have := h j x hx; omega
    · rw [rd1_no (s := (num, nx, ou)) hz c] at e
      injection e with e1 e2; injection e2 with e2 _
      simp only at e1 e2
      subst e1; subst e2
      exact ⟨h, Int.le_refl _, by omega, rfl⟩
theorem rd_lt {num : List Int} {nx : Int} (x y : Nat) (h : ∀ (j : Nat) (x : Int), num[j]? = some x → x < nx) : (∀ (j : Nat) (z : Int), (rdP num nx [x, y]).1[j]? = some z → z < (rdP num nx [x, y]).2.1) ∧ nx ≤ (rdP num nx [x, y]).2.1 ∧ (rdP num nx [x, y]).2.1 ≤ nx + 2 ∧ (rdP num nx [x, y]).1.length = num.length := by
  rcases e1 : rd1 (num, nx, []) x with ⟨n1, x1, o1⟩
  rcases e2 : rd1 (n1, x1, o1) y with ⟨n2, x2, o2⟩
  have e : rdP num nx [x, y] = (n2, x2, o2) := by
    unfold rdP
    simp only [List.foldl_cons, List.foldl_nil, e1, e2]
  obtain ⟨a1, a2, a3, a4⟩ := rd1_lt e1 h
  obtain ⟨b1, b2, b3, b4⟩ := rd1_lt e2 a1
  rw [e]
  exact ⟨b1, by simp only; omega, by simp only; omega, by simp only; omega⟩
theorem has_rot {D : List Nat} {w0 w : World} {A T : List (Nat × Obj)} {y : Nat × Obj} (h : Has D w0 (A ++ (T ++ [y])) w) : Has D w0 (y :: (A ++ T)) w := h.perm (by rw [← List.append_assoc]; exact List.perm_append_comm)
theorem row_blk3 {v : Value} {n size : Nat} {xs : List Value} {e : TypeId} {E : List (Nat × Obj)} (h : Row v n xs size e E) (h0 : 0 < n) : ∃ b cap junk, v = .slice (some ⟨b, 0, none⟩) n cap ∧ (xs ++ junk).length = cap * size ∧ n ≤ cap ∧ E = [(b, C (xs ++ junk) e)] := by
  rcases h with ⟨_, h2, _, _⟩ | ⟨b, cap', junk, h1, _, h3, h4, h5⟩
  · omega
  · exact ⟨b, cap', junk, h1, h3, h4, h5⟩
theorem fresh_ne {w0 w : World} {F : List (Nat × Obj)} (hh : Has [] w0 F w) {a b : Nat} {o o' : Obj} (ha : w0.heap[a]? = some o) (hb : (b, o') ∈ F) : a ≠ b := by
  have h1 := (Array.getElem?_eq_some_iff.1 ha).1
  rcases hh.own b o' hb with h2 | h2
  · cases h2
  · omega
theorem new_ok {X : SX} {st : SB} (hok : st.ok X.vs) (bq : Nat × Nat) (pl : Int) (gb gc : Nat) (gj : List Value) {r : Nat} (hr : st.nx ≤ 2 * r) (hr2 : r ≤ 100) : SB.ok ⟨pl, (rdP st.num st.nx [bq.1, bq.2]).1, (rdP st.num st.nx [bq.1, bq.2]).2.1, gb, gc, gj⟩ X.vs ∧ (rdP st.num st.nx [bq.1, bq.2]).2.1 ≤ 2 * (r + 1) := by
  obtain ⟨h1, h2, h3, h4⟩ := rd_lt bq.1 bq.2 hok.lt
  have := hok.nx
  exact ⟨⟨h4.trans hok.len, ⟨by simp only; omega, by simp only; omega⟩, h1⟩, by omega⟩
theorem new_row {nbs : List SB} {rv2 : Value} {E2 : List (Nat × Obj)} {s : SB} {l : Nat} {pl : Int} (hl : s.num.length = l) (hp : s.pl = pl) (h : Row rv2 (nbs.length + 1) (fl SB.cells nbs ++ [.int .u64 pl, .slice (some ⟨s.nb, 0, none⟩) l s.nc, .int .i64 s.nx]) 3 47 E2) : Row rv2 (nbs ++ [s]).length (fl SB.cells (nbs ++ [s])) 3 47 E2 := by
  subst hl; subst hp
  rw [List.length_append, fl_append]
  have : fl SB.cells [s] = s.cells := by simp [fl]
  rw [this]; exact h
theorem has_fix {D : List Nat} {w0 w : World} {x1 x2 g x4 : Nat × Obj} {Es E2 : List (Nat × Obj)} (h : Has D w0 (x1 :: x2 :: g :: x4 :: (Es ++ E2)) w) : Has D w0 (E2 ++ (Es ++ [g])) w := by
  refine (h.perm (show List.Perm _ ((E2 ++ (Es ++ [g])) ++ [x1, x2, x4]) from ?_)).keep (G := [x1, x2, x4]) ⟨List.Perm.refl _⟩
  have e1 : (x1 :: x2 :: g :: x4 :: (Es ++ E2)).Perm (g :: x1 :: x2 :: x4 :: (Es ++ E2)) := by
    refine (List.Perm.cons _ (List.Perm.swap _ _ _)).trans ?_
    exact List.Perm.swap _ _ _
  refine e1.trans ?_
  have e2 : (g :: ([x1, x2, x4] ++ (Es ++ E2))).Perm (g :: ((E2 ++ Es) ++ [x1, x2, x4])) := List.Perm.cons _ (List.perm_append_comm.trans (List.Perm.append_right _ List.perm_append_comm))
  refine e2.trans ?_
  have e3 : (g :: ((E2 ++ Es) ++ [x1, x2, x4])).Perm ((E2 ++ Es) ++ g :: [x1, x2, x4]) := List.perm_middle.symm
  refine e3.trans ?_
  simp
theorem followP_zero (X : SX) (cs : List Core) (picks : List (Nat × Nat)) : followP X cs picks 0 = [] := rfl
attribute [local irreducible] followP twL rdP sh64 twinP
theorem two_get0 {L : List Value} {o : Nat} {x y : Value} (h : (L.drop o).take 2 = [x, y]) : L[o + 0]? = some x := by
  have h2 : ((L.drop o).take 2)[0]? = some x := by rw [h]; rfl
  rw [List.getElem?_take, if_pos (by decide), List.getElem?_drop] at h2; exact h2
theorem two_get1 {L : List Value} {o : Nat} {x y : Value} (h : (L.drop o).take 2 = [x, y]) : L[o + 1]? = some y := by
  have h2 : ((L.drop o).take 2)[1]? = some y := by rw [h]; rfl
  rw [List.getElem?_take, if_pos (by decide), List.getElem?_drop] at h2; exact h2


set_option maxHeartbeats 16000000 in
theorem follow_spec (X : SX) (Z : List (Nat × Obj)) (hX : SIn X Z) (bs : List SB) (fb cap : Nat) (jf : List Value) (hF : FrI X Z bs fb jf) (r : Nat) (hJ : FrJ bs r) (hr : r ≤ 100) (hbl : bs.length ≤ 100000) (picks : List (Nat × Nat)) (pp : Option Addr) (pc : Nat) (Ep : List (Nat × Obj)) (hP : Row (.slice pp picks.length pc) picks.length (fl pkc picks) 2 61 Ep) (hEp : ∀ x, x ∈ Ep → x ∈ Z) (hpl : picks.length ≤ 100000) (hpv : ∀ q, q ∈ picks → q.1 < bs.length ∧ q.2 < X.n) : SpK Try.prog 8 #[.pointer (some ⟨X.sb, 0, none⟩), .slice (some ⟨fb, 0, none⟩) bs.length cap, .slice pp picks.length pc] (Mem Z) [] (fun u F' => ∃ (nbs : List SB) (En Es : List (Nat × Obj)), nbs.map SB.core = followP X (bs.map SB.core) picks picks.length ∧ nbs.length ≤ picks.length ∧ Row u nbs.length (fl SB.cells nbs) 3 47 En ∧ (∀ b, b ∈ nbs → b.blk ∈ Es) ∧ (∀ b, b ∈ nbs → b.ok X.vs) ∧ FrJ nbs (r + 1) ∧ F' = En ++ Es) := by
  refine f_enter (args := [.pointer (some ⟨X.sb, 0, none⟩), .slice (some ⟨fb, 0, none⟩) bs.length cap, .slice pp picks.length pc]) Try.func8 rfl Try.ntmps8 rfl ?_
  intro w0 w a hpre hl hh
  have hms := hpre _ _ hX.s; have hmb := hpre _ _ hX.b; have hmf := hpre _ _ hF.f
  have h64 := hX.n64; have h900 := hX.v1000
  simp only [slotsFrom, Nat.reduceAdd] at hl
  refine c_seq ?_
  refine c_region ?_
  refine wl (wl_val hl rfl trivial (r_assign hl rfl) ?_)
  clear hl a; intro a hl
  refine w_nil ?_
  have hl2 := hl.add (t := 0) (hl.add (t := 1) (hl.add (t := 2) (hl.nil) rfl) rfl) rfl; clear hl; have hl := hl2; clear hl2
  refine then_normal ?_
  refine c_seq ?_
  refine c_region ?_
  refine wl (wl_val hl rfl trivial (r_move hl rfl) ?_)
  clear hl a; intro a hl
  refine wl (wl_val hl rfl trivial (r_lenS hl rfl slc51) ?_)
  clear hl a; intro a hl
  refine wl (w_makeSlice0 hl hh rfl trivial app50 rfl rfl (by omega) (by decide) ?_)
  clear hl hh a w; intro k16 jk16 a w hjk16 hl hh
  refine wl (wl_val hl rfl trivial (r_assign hl rfl) ?_)
  clear hl a; intro a hl
  refine w_nil ?_
  have hl2 := hl.add (t := 0) (hl.add (t := 1) (hl.add (t := 2) (hl.add (t := 7) (hl.nil) rfl) rfl) rfl) rfl; clear hl; have hl := hl2; clear hl2
  refine then_normal ?_
  refine c_seq ?_
  refine c_seq ?_
  refine c_region ?_
  refine wl (wl_val hl rfl trivial (r_move hl rfl) ?_)
  clear hl a; intro a hl
  refine wl (wl_val hl rfl trivial (r_lenS hl rfl slc51) ?_)
  clear hl a; intro a hl
  refine wl (wl_val hl rfl trivial (r_move hl rfl) ?_)
  clear hl a; intro a hl
  refine w_nil ?_
  have hl2 := hl.add (t := 0) (hl.add (t := 1) (hl.add (t := 2) (hl.add (t := 7) (hl.add (t := 17) (hl.add (t := 18) (hl.add (t := 19) (hl.nil) rfl) rfl) rfl) rfl) rfl) rfl) rfl; clear hl; have hl := hl2; clear hl2
  refine then_normal ?_
  refine wp_block ?_
  obtain ⟨KS0, hKS0, hk⟩ := (hl.add (t := 0) (hl.add (t := 1) (hl.add (t := 2) (hl.add (t := 17) (hl.add (t := 18) (hl.nil) rfl) rfl) rfl) rfl) rfl).name
  obtain ⟨HS0, hHS0, hh2⟩ := hh.nameT (A := []) (U := [(k16, C jk16 47)]) ((by repeat (first | exact keeps_nil | exact keeps_self | exact keeps_swap | apply keeps_mv)))
  refine c_loop (α := FS) (fun s => picks.length - s.k) (fun s a w => (FSI X (bs.map SB.core) picks r s) ∧ Sl 95 ([(19, .int .i64 (s.k : Int)), (7, s.nv)] ++ KS0) a ∧ Has _ w0 ([] ++ (HS0 ++ s.tail)) w) ⟨0, [], .slice (some ⟨k16, 0, none⟩) 0 picks.length, [(k16, C jk16 47)], []⟩ ⟨⟨Nat.zero_le _, (followP_zero _ _ _).symm, Nat.zero_le _, .inr ⟨k16, picks.length, jk16, rfl, rfl, (show (fl SB.cells [] ++ jk16).length = picks.length * 3 from hjk16), Nat.zero_le _, rfl⟩, (fun b hb => by cases hb), (fun b hb => by cases hb), ⟨(fun b hb => by cases hb), (fun b hb => by cases hb)⟩⟩, hl.addE (t := 19) (hl.addE (t := 7) (hk) rfl (by first | rfl)) rfl (by first | rfl), (by simp only [FS.tail, List.append_nil, List.nil_append]; first | exact hh2 | (simp only [List.append_nil] at hh2; exact hh2))⟩ ?_
  clear hk hh2 hl hh a w
  intro s a w hI
  obtain ⟨hI, hl, hh⟩ := hI
  subst hKS0; subst hHS0
  simp only [List.cons_append, List.nil_append, List.append_nil] at hl hh
  obtain ⟨k, nbs, nv, En, Es⟩ := s
  obtain ⟨hk, hco, hnl0, hrow, hblk, hokn, hfj⟩ := hI
  unfold FS.tail at hh
  simp only at hl hh hk hco hnl0 hrow hblk hokn hfj
  have hone2 := hrow.one
  refine c_seq ?_
  refine c_region ?_
  refine wl (wl_val hl rfl trivial (r_lss hl rfl rfl) ?_)
  clear hl a; intro a hl
  refine w_nil ?_
  have hl2 := hl.add (t := 0) (hl.add (t := 1) (hl.add (t := 2) (hl.add (t := 7) (hl.add (t := 17) (hl.add (t := 18) (hl.add (t := 19) (hl.add (t := 20) (hl.nil) rfl) rfl) rfl) rfl) rfl) rfl) rfl) rfl; clear hl; have hl := hl2; clear hl2
  refine then_normal ?_
  refine c_seq ?_
  refine c_cond hl rfl ?_ ?_
  · intro hc0
    try simp only [decide_eq_true_eq, decide_eq_false_iff_not, Bool.not_eq_true', Bool.not_eq_false', Bool.not_eq_true, Bool.not_eq_false, Bool.and_eq_true, Bool.or_eq_true, Bool.and_eq_false_iff, Bool.or_eq_false_iff, Bool.not_not, ne_eq, Int.not_lt, Int.not_le, Decidable.not_not, beq_iff_eq, bne_iff_ne] at hc0
    obtain ⟨pk, hpk⟩ : ∃ p, picks[k]? = some p := ⟨_, List.getElem?_eq_getElem (by omega)⟩
    obtain ⟨hpk1, hpk2⟩ := hpv pk (List.mem_of_getElem? hpk)
    obtain ⟨pb, jp, hpp, _, _, hpE⟩ := row_pos hP (by omega)
    subst hpp
    have hmp := hpre pb _ (hEp (pb, C (fl pkc picks ++ jp) 61) (by rw [hpE]; simp))
    have hq9 := fl_at pk_len hpk jp
    simp only [pkc] at hq9
    obtain ⟨st, hst⟩ : ∃ s, bs[pk.1]? = some s := ⟨_, List.getElem?_eq_getElem hpk1⟩
    have hS := hF.st hst
    have hok := hF.ok st (List.mem_of_getElem? hst)
    have hnl := hok.len
    have hcore : (bs.map SB.core)[pk.1]? = some st.core := by rw [List.getElem?_map, hst]; rfl
    obtain ⟨bq, hbq⟩ : ∃ q, X.body[pk.2]? = some q := ⟨_, List.getElem?_eq_getElem (by rw [hX.nl]; exact hpk2)⟩
    obtain ⟨ab, hab0⟩ : ∃ b, X.ab[pk.2]? = some b := ⟨_, List.getElem?_eq_getElem (by rw [hX.al]; exact hpk2)⟩
    have hab := hX.a pk.2 ab bq hab0 hbq
    obtain ⟨hv1, hv2⟩ := hX.vb pk.2 bq hbq
    have hrs : Row (.slice (some ⟨st.nb, 0, none⟩) st.num.length st.nc) st.num.length (fl iI st.num) 1 3 [st.blk] := .inr ⟨st.nb, st.nc, st.jn, rfl, by rw [fl_len iI_len], (hJ.cp st (List.mem_of_getElem? hst)).1, (hJ.cp st (List.mem_of_getElem? hst)).2, rfl⟩
    refine wp_skip ?_
    refine then_normal ?_
    refine c_seq ?_
    refine wp_block ?_
    refine c_seq ?_
    refine c_region ?_
    refine wl (wl_val hl rfl trivial (r_move hl rfl) ?_)
    clear hl a; intro a hl
    refine wl (wl_val hl rfl trivial (r_indexS hl rfl rfl slc51 (by omega) (by omega) (by first | (simp only [Int.reduceToNat]; rfl) | exact toNat_add1 _ | exact toNat_add2 _ _ | exact toNat_emod _ _ | exact Int.toNat_natCast _ | rfl)) ?_)
    clear hl a; intro a hl
    first | refine wl (w_loadA hl hh rfl trivial agg61 rfl (by repeat (first | exact find_head | apply find_tail)) (by first | (simp only [List.getElem?_cons_zero, List.getElem?_cons_succ, Value.cells, List.take_zero, List.take_succ_cons, List.take_nil, List.drop_zero, List.drop_succ_cons, List.drop_nil, List.length_cons, List.length_nil, List.cons_append, List.nil_append, List.append_nil, Nat.zero_add, Nat.add_zero, Nat.reduceAdd, Nat.reduceBEq, Nat.reduceEqDiff, Nat.ble, BEq.rfl, Bool.and_true, Bool.and_self, cond_true, beq_self_eq_true]; rfl)) (by first | rfl | (simp; done)) ?_) | refine wl (w_loadRA hl hh rfl trivial agg61 rfl hmp (by simp) hq9 rfl ?_)
    clear hl a; intro a hl
    refine wl (w_alloc hl hh rfl trivial zero61 rfl ?_)
    clear hl hh a w; intro k9 a w hl hh
    refine wl (wl_val hl rfl trivial (r_assign hl rfl) ?_)
    clear hl a; intro a hl
    refine wl (w_storeA hl hh trivial agg61 rfl rfl (by repeat (first | exact find_head | apply find_tail)) (by first | rfl | (simp; done)) (by first | (simp; done) | (simp; omega)) (by first | rfl | (simp; done)) (by first | (simp only [setL, List.getElem?_cons_zero, List.getElem?_cons_succ, Value.cells, List.take_zero, List.take_succ_cons, List.take_nil, List.drop_zero, List.drop_succ_cons, List.drop_nil, List.length_cons, List.length_nil, List.cons_append, List.nil_append, List.append_nil, Nat.zero_add, Nat.add_zero, Nat.reduceAdd, Nat.reduceBEq, Nat.reduceEqDiff, Nat.ble, BEq.rfl, Bool.and_true, Bool.and_self, cond_true, beq_self_eq_true]; rfl)) ?_)
    clear hh w; intro w hh
    refine w_nil ?_
    have hl2 := hl.add (t := 0) (hl.add (t := 1) (hl.add (t := 2) (hl.add (t := 7) (hl.add (t := 8) (hl.add (t := 9) (hl.add (t := 17) (hl.add (t := 18) (hl.add (t := 19) (hl.nil) rfl) rfl) rfl) rfl) rfl) rfl) rfl) rfl) rfl; clear hl; have hl := hl2; clear hl2
    refine then_normal ?_
    refine c_seq ?_
    refine c_region ?_
    refine wl (wl_val hl rfl trivial (r_move hl rfl) ?_)
    clear hl a; intro a hl
    refine wl (wl_val hl rfl trivial (r_field hl rfl fld61_0) ?_)
    clear hl a; intro a hl
    refine wl (w_load hl hh rfl trivial one3 rfl (by repeat (first | exact find_head | apply find_tail)) (by first | rfl) ?_)
    clear hl a; intro a hl
    refine wl (wl_val hl rfl trivial (r_indexS hl rfl rfl slc50 (by omega) (by omega) (by first | (simp only [Int.reduceToNat]; rfl) | exact toNat_add1 _ | exact toNat_add2 _ _ | exact toNat_emod _ _ | exact Int.toNat_natCast _ | rfl)) ?_)
    clear hl a; intro a hl
    refine wl (wl_val hl rfl trivial (r_assign hl rfl) ?_)
    clear hl a; intro a hl
    refine w_nil ?_
    have hl2 := hl.add (t := 0) (hl.add (t := 1) (hl.add (t := 2) (hl.add (t := 7) (hl.add (t := 8) (hl.add (t := 9) (hl.add (t := 10) (hl.add (t := 17) (hl.add (t := 18) (hl.add (t := 19) (hl.nil) rfl) rfl) rfl) rfl) rfl) rfl) rfl) rfl) rfl) rfl; clear hl; have hl := hl2; clear hl2
    refine then_normal ?_
    refine c_seq ?_
    refine c_region ?_
    refine wl (wl_val hl rfl trivial (r_assign hl rfl) ?_)
    clear hl a; intro a hl
    refine w_nil ?_
    have hl2 := hl.add (t := 0) (hl.add (t := 1) (hl.add (t := 2) (hl.add (t := 7) (hl.add (t := 8) (hl.add (t := 9) (hl.add (t := 10) (hl.add (t := 11) (hl.add (t := 17) (hl.add (t := 18) (hl.add (t := 19) (hl.nil) rfl) rfl) rfl) rfl) rfl) rfl) rfl) rfl) rfl) rfl) rfl; clear hl; have hl := hl2; clear hl2
    refine then_normal ?_
    refine c_seq ?_
    refine c_seq ?_
    refine c_region ?_
    refine wl (wl_val hl rfl trivial (r_move hl rfl) ?_)
    clear hl a; intro a hl
    first | refine wl (wl_val hl rfl trivial (r_sub hl rfl rfl (by simp only [Fits]; omega)) ?_) | refine wl (wl_val hl rfl trivial (r_subW hl rfl rfl) ?_)
    clear hl a; intro a hl
    refine wl (wl_val hl rfl trivial (r_assign hl rfl) ?_)
    clear hl a; intro a hl
    refine w_nil ?_
    have hl2 := hl.add (t := 0) (hl.add (t := 1) (hl.add (t := 2) (hl.add (t := 7) (hl.add (t := 9) (hl.add (t := 10) (hl.add (t := 11) (hl.add (t := 12) (hl.add (t := 17) (hl.add (t := 18) (hl.add (t := 19) (hl.nil) rfl) rfl) rfl) rfl) rfl) rfl) rfl) rfl) rfl) rfl) rfl; clear hl; have hl := hl2; clear hl2
    refine then_normal ?_
    refine wp_block ?_
    obtain ⟨KS1, hKS1, hk⟩ := (hl.add (t := 0) (hl.add (t := 1) (hl.add (t := 2) (hl.add (t := 7) (hl.add (t := 9) (hl.add (t := 10) (hl.add (t := 17) (hl.add (t := 18) (hl.add (t := 19) (hl.nil) rfl) rfl) rfl) rfl) rfl) rfl) rfl) rfl) rfl).name
    obtain ⟨HS1, hHS1, hh2⟩ := hh.name (keeps_cons (b := k9) (by repeat (first | exact find_head | apply find_tail)) (by first | rfl) (keeps_nil))
    refine c_loop (α := Nat × Bool) (fun s => s.1) (fun s a w => (s.1 ≤ k ∧ (s.2 = false → twL X st.core picks pk bq k = twL X st.core picks pk bq s.1) ∧ (s.2 = true → twL X st.core picks pk bq k = true)) ∧ Sl 95 ([(12, .int .i64 ((s.1 : Int) - 1)), (11, .bool s.2)] ++ KS1) a ∧ Has _ w0 ([(k9, C [.int .i64 (pk.1 : Int), .int .i64 (pk.2 : Int)] 61)] ++ HS1) w) (k, false) ⟨⟨Nat.le_refl _, fun _ => rfl, fun h => by cases h⟩, hl.addE (t := 12) (hl.addE (t := 11) (hk) rfl (by first | exact congrArg (Value.int .i64) (by simp) | rfl)) rfl (by first | exact congrArg (Value.int .i64) (by simp) | rfl), hh2⟩ ?_
    clear hk hh2 hl hh a w
    intro s a w hI
    obtain ⟨⟨hjk, ht1, ht2⟩, hl, hh⟩ := hI
    subst hKS1; subst hHS1
    simp only [List.cons_append, List.nil_append, List.append_nil] at hl hh
    obtain ⟨jn, tw⟩ := s
    simp only at hjk ht1 ht2 hl hh
    refine c_seq ?_
    refine c_seq ?_
    refine c_draw [(pb, C (fl pkc picks ++ jp) 61), (k9, C [.int .i64 (pk.1 : Int), .int .i64 (pk.2 : Int)] 61)] [10, 11, 12, 13, 14, 15] mixed hh ?_
    clear hh w; intro w hh
    have hM : Mem [(pb, C (fl pkc picks ++ jp) 61), (k9, C [.int .i64 (pk.1 : Int), .int .i64 (pk.2 : Int)] 61)] w := (by repeat (first | exact Mem.nil | refine Mem.consR hh (by assumption) (by simp) ?_ | refine Mem.cons hh.mem (by repeat (first | exact find_head | apply find_tail)) ?_))
    refine d_take (i := 0) hl rfl (by kernel_rfl) (by kernel_rfl) (by kernel_rfl) (by kernel_rfl) (by kernel_rfl) rfl trivial (fun _ _ _ h => h) hM (fun w hC => r_move hl rfl) rfl ?_
    clear hl a; intro a hl
    refine d_take (i := 1) hl rfl (by kernel_rfl) (by kernel_rfl) (by kernel_rfl) (by kernel_rfl) (by kernel_rfl) rfl trivial (fun _ _ _ h => h) hM (fun w hC => r_geq hl rfl rfl) rfl ?_
    clear hl a; intro a hl
    refine d_take (i := 2) hl rfl (by kernel_rfl) (by kernel_rfl) (by kernel_rfl) (by kernel_rfl) (by kernel_rfl) rfl trivial (fun _ _ _ h => h) hM (fun w hC => r_move hl rfl) rfl ?_
    clear hl a; intro a hl
    refine sl_split (t := 32) hl rfl ?_ ?_
    · intro hg1; clear hl; intro hl
      try simp only [decide_eq_true_eq, decide_eq_false_iff_not, Bool.not_eq_true', Bool.not_eq_false', Bool.not_eq_true, Bool.not_eq_false, Bool.and_eq_true, Bool.or_eq_true, Bool.and_eq_false_iff, Bool.or_eq_false_iff, Bool.not_not, ne_eq, Int.not_lt, Int.not_le, Decidable.not_not, beq_iff_eq, bne_iff_ne] at hg1
      refine d_take (i := 3) hl rfl (by kernel_rfl) (by kernel_rfl) (by kernel_rfl) (by kernel_rfl) (by kernel_rfl) rfl ⟨_, _, rfl, rfl, rfl⟩ (fun _ _ _ h => h) hM (fun w hC => r_move hl rfl) rfl ?_
      clear hl a; intro a hl
      obtain ⟨j, hj⟩ : ∃ j, jn = j + 1 := ⟨jn - 1, by omega⟩
      subst hj
      obtain ⟨pr, hpr⟩ : ∃ q, picks[j]? = some q := ⟨_, List.getElem?_eq_getElem (by omega)⟩
      have hqr := fl_at pk_len hpr jp
      simp only [pkc] at hqr
      rw [show (((j + 1 : Nat) : Int) - 1) = (j : Int) by omega] at hl
      refine d_take (i := 4) hl rfl (by kernel_rfl) (by kernel_rfl) (by kernel_rfl) (by kernel_rfl) (by kernel_rfl) rfl ⟨_, _, rfl, rfl, rfl⟩ (fun _ _ _ h => h) hM (fun w hC => r_move hl rfl) rfl ?_
      clear hl a; intro a hl
      refine d_take (i := 5) hl rfl (by kernel_rfl) (by kernel_rfl) (by kernel_rfl) (by kernel_rfl) (by kernel_rfl) rfl ⟨_, _, rfl, rfl, rfl⟩ (fun _ _ _ h => h) hM (fun w hC => r_indexS hl rfl rfl slc51 (by omega) (by omega) (by first | (simp only [Int.reduceToNat]; rfl) | exact toNat_add1 _ | exact toNat_add2 _ _ | exact toNat_emod _ _ | exact Int.toNat_natCast _ | rfl)) rfl ?_
      clear hl a; intro a hl
      refine d_take (i := 6) hl rfl (by kernel_rfl) (by kernel_rfl) (by kernel_rfl) (by kernel_rfl) (by kernel_rfl) rfl ⟨_, _, rfl, rfl, rfl⟩ (fun _ _ _ h => h) hM (fun w hC => r_field hl rfl fld61_0) rfl ?_
      clear hl a; intro a hl
      refine d_take (i := 7) hl rfl (by kernel_rfl) (by kernel_rfl) (by kernel_rfl) (by kernel_rfl) (by kernel_rfl) rfl ⟨_, _, rfl, rfl, rfl⟩ (fun _ _ _ h => h) hM (fun w hC => r_loadC hl rfl one3 hC (by repeat (first | exact find_head | apply find_tail)) (by exact two_get0 hqr)) rfl ?_
      clear hl a; intro a hl
      refine d_take (i := 8) hl rfl (by kernel_rfl) (by kernel_rfl) (by kernel_rfl) (by kernel_rfl) (by kernel_rfl) rfl ⟨_, _, rfl, rfl, rfl⟩ (fun _ _ _ h => h) hM (fun w hC => r_field hl rfl fld61_0) rfl ?_
      clear hl a; intro a hl
      refine d_take (i := 9) hl rfl (by kernel_rfl) (by kernel_rfl) (by kernel_rfl) (by kernel_rfl) (by kernel_rfl) rfl ⟨_, _, rfl, rfl, rfl⟩ (fun _ _ _ h => h) hM (fun w hC => r_loadC hl rfl one3 hC (by repeat (first | exact find_head | apply find_tail)) (by first | rfl)) rfl ?_
      clear hl a; intro a hl
      refine d_takeL (i := 10) hl rfl (by kernel_rfl) (by kernel_rfl) (by kernel_rfl) (by kernel_rfl) (by kernel_rfl) rfl ⟨_, _, rfl, rfl, rfl⟩ (fun _ _ _ h => h) (fun w => r_eql hl rfl rfl) rfl ?_
      clear hl a; intro a hl
      refine d_takeL (i := 11) hl rfl (by kernel_rfl) (by kernel_rfl) (by kernel_rfl) (by kernel_rfl) (by kernel_rfl) rfl trivial (fun _ _ _ h => h) (fun w => r_pickT hl rfl rfl) rfl ?_
      clear hl a; intro a hl
      refine d_takeL (i := 12) hl rfl (by kernel_rfl) (by kernel_rfl) (by kernel_rfl) (by kernel_rfl) (by kernel_rfl) rfl trivial (fun _ _ _ h => h) (fun w => r_move hl rfl) rfl ?_
      clear hl a; intro a hl
      refine sl_split (t := 42) hl rfl ?_ ?_
      · intro hg2; clear hl; intro hl
        try simp only [decide_eq_true_eq, decide_eq_false_iff_not, Bool.not_eq_true', Bool.not_eq_false', Bool.not_eq_true, Bool.not_eq_false, Bool.and_eq_true, Bool.or_eq_true, Bool.and_eq_false_iff, Bool.or_eq_false_iff, Bool.not_not, ne_eq, Int.not_lt, Int.not_le, Decidable.not_not, beq_iff_eq, bne_iff_ne] at hg2
        refine d_takeL (i := 13) hl rfl (by kernel_rfl) (by kernel_rfl) (by kernel_rfl) (by kernel_rfl) (by kernel_rfl) rfl ⟨_, _, rfl, rfl, rfl⟩ (fun _ _ _ h => h) (fun w => r_move hl rfl) rfl ?_
        clear hl a; intro a hl
        refine d_takeL (i := 14) hl rfl (by kernel_rfl) (by kernel_rfl) (by kernel_rfl) (by kernel_rfl) (by kernel_rfl) rfl ⟨_, _, rfl, rfl, rfl⟩ (fun _ _ _ h => h) (fun w => r_not hl rfl) rfl ?_
        clear hl a; intro a hl
        refine d_takeL (i := 15) hl rfl (by kernel_rfl) (by kernel_rfl) (by kernel_rfl) (by kernel_rfl) (by kernel_rfl) rfl trivial (fun _ _ _ h => h) (fun w => r_pickT hl rfl rfl) rfl ?_
        clear hl a; intro a hl
        refine d_done (by kernel_rfl) ?_
        try clear hM
        have hl2 := hl.add (t := 0) (hl.add (t := 1) (hl.add (t := 2) (hl.add (t := 7) (hl.add (t := 9) (hl.add (t := 10) (hl.add (t := 11) (hl.add (t := 12) (hl.add (t := 17) (hl.add (t := 18) (hl.add (t := 19) (hl.add (t := 45) (hl.nil) rfl) rfl) rfl) rfl) rfl) rfl) rfl) rfl) rfl) rfl) rfl) rfl; clear hl; have hl := hl2; clear hl2
        refine then_normal ?_
        refine c_cond hl rfl ?_ ?_
        · intro hc1
          try simp only [decide_eq_true_eq, decide_eq_false_iff_not, Bool.not_eq_true', Bool.not_eq_false', Bool.not_eq_true, Bool.not_eq_false, Bool.and_eq_true, Bool.or_eq_true, Bool.and_eq_false_iff, Bool.or_eq_false_iff, Bool.not_not, ne_eq, Int.not_lt, Int.not_le, Decidable.not_not, beq_iff_eq, bne_iff_ne] at hc1
          obtain ⟨br, hbr⟩ : ∃ q, X.body[pr.2]? = some q := ⟨_, List.getElem?_eq_getElem (by rw [hX.nl]; exact (hpv pr (List.mem_of_getElem? hpr)).2)⟩
          refine wp_skip ?_
          refine then_normal ?_
          refine c_seq ?_
          refine wp_block ?_
          refine c_draw [(pb, C (fl pkc picks ++ jp) 61), (k9, C [.int .i64 (pk.1 : Int), .int .i64 (pk.2 : Int)] 61)] [9, 10] mixed hh ?_
          clear hh w; intro w hh
          have hM : Mem [(pb, C (fl pkc picks ++ jp) 61), (k9, C [.int .i64 (pk.1 : Int), .int .i64 (pk.2 : Int)] 61)] w := (by repeat (first | exact Mem.nil | refine Mem.consR hh (by assumption) (by simp) ?_ | refine Mem.cons hh.mem (by repeat (first | exact find_head | apply find_tail)) ?_))
          refine d_take (i := 0) hl rfl (by kernel_rfl) (by kernel_rfl) (by kernel_rfl) (by kernel_rfl) (by kernel_rfl) rfl trivial (fun _ _ _ h => h) hM (fun w hC => r_move hl rfl) rfl ?_
          clear hl a; intro a hl
          refine d_take (i := 1) hl rfl (by kernel_rfl) (by kernel_rfl) (by kernel_rfl) (by kernel_rfl) (by kernel_rfl) rfl trivial (fun _ _ _ h => h) hM (fun w hC => r_move hl rfl) rfl ?_
          clear hl a; intro a hl
          refine d_take (i := 2) hl rfl (by kernel_rfl) (by kernel_rfl) (by kernel_rfl) (by kernel_rfl) (by kernel_rfl) rfl trivial (fun _ _ _ h => h) hM (fun w hC => r_move hl rfl) rfl ?_
          clear hl a; intro a hl
          refine d_take (i := 3) hl rfl (by kernel_rfl) (by kernel_rfl) (by kernel_rfl) (by kernel_rfl) (by kernel_rfl) rfl trivial (fun _ _ _ h => h) hM (fun w hC => r_move hl rfl) rfl ?_
          clear hl a; intro a hl
          refine d_take (i := 4) hl rfl (by kernel_rfl) (by kernel_rfl) (by kernel_rfl) (by kernel_rfl) (by kernel_rfl) rfl trivial (fun _ _ _ h => h) hM (fun w hC => r_indexS hl rfl rfl slc51 (by omega) (by omega) (by first | (simp only [Int.reduceToNat]; rfl) | exact toNat_add1 _ | exact toNat_add2 _ _ | exact toNat_emod _ _ | exact Int.toNat_natCast _ | rfl)) rfl ?_
          clear hl a; intro a hl
          refine d_take (i := 5) hl rfl (by kernel_rfl) (by kernel_rfl) (by kernel_rfl) (by kernel_rfl) (by kernel_rfl) rfl trivial (fun _ _ _ h => h) hM (fun w hC => r_field hl rfl fld61_1) rfl ?_
          clear hl a; intro a hl
          refine d_take (i := 6) hl rfl (by kernel_rfl) (by kernel_rfl) (by kernel_rfl) (by kernel_rfl) (by kernel_rfl) rfl trivial (fun _ _ _ h => h) hM (fun w hC => r_loadC hl rfl one3 hC (by repeat (first | exact find_head | apply find_tail)) (by exact two_get1 hqr)) rfl ?_
          clear hl a; intro a hl
          refine d_take (i := 7) hl rfl (by kernel_rfl) (by kernel_rfl) (by kernel_rfl) (by kernel_rfl) (by kernel_rfl) rfl trivial (fun _ _ _ h => h) hM (fun w hC => r_field hl rfl fld61_1) rfl ?_
          clear hl a; intro a hl
          refine d_take (i := 8) hl rfl (by kernel_rfl) (by kernel_rfl) (by kernel_rfl) (by kernel_rfl) (by kernel_rfl) rfl trivial (fun _ _ _ h => h) hM (fun w hC => r_loadC hl rfl one3 hC (by repeat (first | exact find_head | apply find_tail)) (by first | rfl)) rfl ?_
          clear hl a; intro a hl
          refine d_one (i := 9) (by kernel_rfl) rfl ?_
          try clear hM
          refine id (w_call hl hh rfl trivial rfl cal11 rfl (twins_spec X Z hX st fb (0 + pk.1 * 3) (fl SB.cells bs ++ jf) 47 hS hok pr.2 pk.2 br bq hbr hbq) (by repeat (first | exact keeps_nil | apply keeps_cons (by repeat (first | exact find_head | apply find_tail)) (by first  | rfl) | exact keeps_self | exact keeps_left | exact keeps_right | exact keeps_swap | apply keeps_mv)) (mem_keep hh hpre) ?_)
          clear hl hh a w; intro vc Fc a w hR hl hh
          obtain ⟨rfl, rfl⟩ := hR
          try simp only [List.cons_append, List.nil_append] at hh
          refine d_step (fun h => absurd h (by decide)) ?_
          refine d_takeL (i := 10) hl rfl (by kernel_rfl) (by kernel_rfl) (by kernel_rfl) (by kernel_rfl) (by kernel_rfl) rfl trivial (fun _ _ _ h => h) (fun w => r_assign hl rfl) rfl ?_
          clear hl a; intro a hl
          refine d_done (by kernel_rfl) ?_
          try clear hM
          have hl2 := hl.add (t := 0) (hl.add (t := 1) (hl.add (t := 2) (hl.add (t := 7) (hl.add (t := 9) (hl.add (t := 10) (hl.add (t := 11) (hl.add (t := 12) (hl.add (t := 17) (hl.add (t := 18) (hl.add (t := 19) (hl.nil) rfl) rfl) rfl) rfl) rfl) rfl) rfl) rfl) rfl) rfl) rfl; clear hl; have hl := hl2; clear hl2
          refine blk_normal ?_
          refine then_normal ?_
          refine c_region ?_
          refine wl (wl_val hl rfl trivial (r_move hl rfl) ?_)
          clear hl a; intro a hl
          first | refine wl (wl_val hl rfl trivial (r_sub hl rfl rfl (by simp only [Fits]; omega)) ?_) | refine wl (wl_val hl rfl trivial (r_subW hl rfl rfl) ?_)
          clear hl a; intro a hl
          refine wl (wl_val hl rfl trivial (r_assign hl rfl) ?_)
          clear hl a; intro a hl
          refine w_nil ?_
          have hl2 := hl.add (t := 0) (hl.add (t := 1) (hl.add (t := 2) (hl.add (t := 7) (hl.add (t := 9) (hl.add (t := 10) (hl.add (t := 11) (hl.add (t := 12) (hl.add (t := 17) (hl.add (t := 18) (hl.add (t := 19) (hl.nil) rfl) rfl) rfl) rfl) rfl) rfl) rfl) rfl) rfl) rfl) rfl; clear hl; have hl := hl2; clear hl2
          refine then_normal ?_
          refine ⟨(j, twinP X st.num st.pl pr.2 pk.2 br bq), (by simp only; omega), ⟨by simp only; omega, fun h => (ht1 (by assumption)).trans (twL_no hpr (by omega) hbr h), fun h => (ht1 (by assumption)).trans (twL_yes hpr (by omega) hbr h)⟩, hl.addE (t := 12) (hl.addE (t := 11) (hl.addE (t := 0) (hl.addE (t := 1) (hl.addE (t := 2) (hl.addE (t := 7) (hl.addE (t := 9) (hl.addE (t := 10) (hl.addE (t := 17) (hl.addE (t := 18) (hl.addE (t := 19) (hl.nil) rfl (by first | rfl | rfl | exact congrArg (Value.int .i64) (by simp only; omega))) rfl (by first | rfl | rfl | exact congrArg (Value.int .i64) (by simp only; omega))) rfl (by first | rfl | rfl | exact congrArg (Value.int .i64) (by simp only; omega))) rfl (by first | rfl | rfl | exact congrArg (Value.int .i64) (by simp only; omega))) rfl (by first | rfl | rfl | exact congrArg (Value.int .i64) (by simp only; omega))) rfl (by first | rfl | rfl | exact congrArg (Value.int .i64) (by simp only; omega))) rfl (by first | rfl | rfl | exact congrArg (Value.int .i64) (by simp only; omega))) rfl (by first | rfl | rfl | exact congrArg (Value.int .i64) (by simp only; omega))) rfl (by first | rfl | rfl | exact congrArg (Value.int .i64) (by simp only; omega))) rfl (by first | rfl | rfl | exact congrArg (Value.int .i64) (by simp only; omega))) rfl (by first | rfl | rfl | exact congrArg (Value.int .i64) (by simp only; omega)), hh.keep (by repeat (first | exact keeps_nil | apply keeps_cons (by repeat (first | exact find_head | apply find_tail)) (by first  | rfl) | exact keeps_self | exact keeps_left | exact keeps_right | exact keeps_swap | apply keeps_mv))⟩
        · intro hc1
          try simp only [decide_eq_true_eq, decide_eq_false_iff_not, Bool.not_eq_true', Bool.not_eq_false', Bool.not_eq_true, Bool.not_eq_false, Bool.and_eq_true, Bool.or_eq_true, Bool.and_eq_false_iff, Bool.or_eq_false_iff, Bool.not_not, ne_eq, Int.not_lt, Int.not_le, Decidable.not_not, beq_iff_eq, bne_iff_ne] at hc1
          have htw := tw_fin ht1 ht2 (by first | exact .inl (by assumption) | exact .inr (.inl (by omega)) | exact .inr (.inr ⟨j, pr, rfl, hpr, by omega⟩))
          refine wp_exit ?_
          refine then_exit ?_
          refine then_exit ?_
          refine blk_exit ?_
          refine then_normal ?_
          refine c_seq ?_
          refine c_seq ?_
          refine c_region ?_
          refine wl (wl_val hl rfl trivial (r_move hl rfl) ?_)
          clear hl a; intro a hl
          refine w_nil ?_
          have hl2 := hl.add (t := 0) (hl.add (t := 1) (hl.add (t := 2) (hl.add (t := 7) (hl.add (t := 9) (hl.add (t := 10) (hl.add (t := 17) (hl.add (t := 18) (hl.add (t := 19) (hl.add (t := 58) (hl.nil) rfl) rfl) rfl) rfl) rfl) rfl) rfl) rfl) rfl) rfl; clear hl; have hl := hl2; clear hl2
          refine then_normal ?_
          refine c_cond hl rfl ?_ ?_
          · intro hc2
            try simp only [decide_eq_true_eq, decide_eq_false_iff_not, Bool.not_eq_true', Bool.not_eq_false', Bool.not_eq_true, Bool.not_eq_false, Bool.and_eq_true, Bool.or_eq_true, Bool.and_eq_false_iff, Bool.or_eq_false_iff, Bool.not_not, ne_eq, Int.not_lt, Int.not_le, Decidable.not_not, beq_iff_eq, bne_iff_ne] at hc2
            refine wp_exit ?_
            refine then_exit ?_
            refine blk_exit ?_
            refine then_normal ?_
            refine c_region ?_
            first | refine wl (wl_val hl rfl trivial (r_add hl rfl rfl (by simp only [Fits]; omega)) ?_) | refine wl (wl_val hl rfl trivial (r_addW hl rfl rfl) ?_)
            clear hl a; intro a hl
            refine wl (wl_val hl rfl trivial (r_move hl rfl) ?_)
            clear hl a; intro a hl
            refine w_nil ?_
            have hl2 := hl.add (t := 0) (hl.add (t := 1) (hl.add (t := 2) (hl.add (t := 7) (hl.add (t := 17) (hl.add (t := 18) (hl.add (t := 19) (hl.nil) rfl) rfl) rfl) rfl) rfl) rfl) rfl; clear hl; have hl := hl2; clear hl2
            refine then_normal ?_
            try replace hh := has_fix hh
            first | refine ⟨⟨k + 1, nbs ++ [⟨bitsOf .or .u64 st.pl (sh64 pk.2), (rdP st.num st.nx [bq.1, bq.2]).1, (rdP st.num st.nx [bq.1, bq.2]).2.1, gb, gc, gj⟩], rv2, E2, Es ++ [(gb, C (fl iI (rdP st.num st.nx [bq.1, bq.2]).1 ++ gj) 3)]⟩, (by simp only; omega), ⟨by simp only; omega, (by show List.map SB.core (nbs ++ [_]) = _; rw [List.map_append, hco, followP_no hpk hcore hbq (by rw [htw]; assumption)]; rfl), (by show (nbs ++ [_]).length ≤ k + 1; rw [List.length_append]; simp only [List.length_singleton]; omega), new_row hlen6 rfl hR2, (fun b hb => by rcases List.mem_append.1 hb with h | h; exact List.mem_append_left _ (hblk b h); (rw [List.mem_singleton] at h; subst h; exact List.mem_append_right _ (List.mem_singleton.2 rfl))), (fun b hb => by rcases List.mem_append.1 hb with h | h; exact hokn b h; (rw [List.mem_singleton] at h; subst h; exact (new_ok hok bq _ gb gc gj (hJ.rd st (List.mem_of_getElem? hst)) hr).1)), ⟨(fun b hb => by rcases List.mem_append.1 hb with h | h; exact hfj.rd b h; (rw [List.mem_singleton] at h; subst h; exact (new_ok hok bq 0 gb gc gj (hJ.rd st (List.mem_of_getElem? hst)) hr).2)), (fun b hb => by rcases List.mem_append.1 hb with h | h; exact hfj.cp b h; (rw [List.mem_singleton] at h; subst h; exact ⟨by rw [← hgl, List.length_append, List.length_append, fl_len iI_len, fl_len iI_len]; show (rdP st.num st.nx [bq.1, bq.2]).1.length * 1 + _ = _; rw [hlen6], by show (rdP st.num st.nx [bq.1, bq.2]).1.length ≤ gc; rw [hlen6]; exact hgc⟩))⟩⟩, hl.addE (t := 19) (hl.addE (t := 7) (hl.addE (t := 0) (hl.addE (t := 1) (hl.addE (t := 2) (hl.addE (t := 17) (hl.addE (t := 18) (hl.nil) rfl (by first | rfl | rfl)) rfl (by first | rfl | rfl)) rfl (by first | rfl | rfl)) rfl (by first | rfl | rfl)) rfl (by first | rfl | rfl)) rfl (by first | rfl | rfl)) rfl (by first | rfl | rfl), hh.keep (by repeat (first | exact keeps_nil | apply keeps_cons (by repeat (first | exact find_head | apply find_tail)) (by first  | rfl) | exact keeps_self | exact keeps_left | exact keeps_right | exact keeps_swap | apply keeps_mv))⟩ | refine ⟨⟨k + 1, nbs, nv, En, Es⟩, (by simp only; omega), ⟨by simp only; omega, hco.trans (followP_yes hpk hcore hbq (by rw [htw]; assumption)).symm, by simp only; omega, hrow, hblk, hokn, hfj⟩, hl.addE (t := 19) (hl.addE (t := 7) (hl.addE (t := 0) (hl.addE (t := 1) (hl.addE (t := 2) (hl.addE (t := 17) (hl.addE (t := 18) (hl.nil) rfl (by first | rfl | rfl)) rfl (by first | rfl | rfl)) rfl (by first | rfl | rfl)) rfl (by first | rfl | rfl)) rfl (by first | rfl | rfl)) rfl (by first | rfl | rfl)) rfl (by first | rfl | rfl), hh.keep (by repeat (first | exact keeps_nil | apply keeps_cons (by repeat (first | exact find_head | apply find_tail)) (by first  | rfl) | exact keeps_self | exact keeps_left | exact keeps_right | exact keeps_swap | apply keeps_mv))⟩
          · intro hc2
            try simp only [decide_eq_true_eq, decide_eq_false_iff_not, Bool.not_eq_true', Bool.not_eq_false', Bool.not_eq_true, Bool.not_eq_false, Bool.and_eq_true, Bool.or_eq_true, Bool.and_eq_false_iff, Bool.or_eq_false_iff, Bool.not_not, ne_eq, Int.not_lt, Int.not_le, Decidable.not_not, beq_iff_eq, bne_iff_ne] at hc2
            refine wp_skip ?_
            refine then_normal ?_
            refine c_seq ?_
            refine c_draw [(fb, C (fl SB.cells bs ++ jf) 47), (k9, C [.int .i64 (pk.1 : Int), .int .i64 (pk.2 : Int)] 61)] [20] mixed hh ?_
            clear hh w; intro w hh
            have hM : Mem [(fb, C (fl SB.cells bs ++ jf) 47), (k9, C [.int .i64 (pk.1 : Int), .int .i64 (pk.2 : Int)] 61)] w := (by repeat (first | exact Mem.nil | refine Mem.consR hh (by assumption) (by simp) ?_ | refine Mem.cons hh.mem (by repeat (first | exact find_head | apply find_tail)) ?_))
            refine d_take (i := 0) hl rfl (by kernel_rfl) (by kernel_rfl) (by kernel_rfl) (by kernel_rfl) (by kernel_rfl) rfl trivial (fun _ _ _ h => h) hM (fun w hC => r_move hl rfl) rfl ?_
            clear hl a; intro a hl
            refine d_take (i := 1) hl rfl (by kernel_rfl) (by kernel_rfl) (by kernel_rfl) (by kernel_rfl) (by kernel_rfl) rfl trivial (fun _ _ _ h => h) hM (fun w hC => r_nilCheck hl rfl) rfl ?_
            clear hl a; intro a hl
            refine d_take (i := 2) hl rfl (by kernel_rfl) (by kernel_rfl) (by kernel_rfl) (by kernel_rfl) (by kernel_rfl) rfl trivial (fun _ _ _ h => h) hM (fun w hC => r_field hl rfl fld47_0) rfl ?_
            clear hl a; intro a hl
            refine d_take (i := 3) hl rfl (by kernel_rfl) (by kernel_rfl) (by kernel_rfl) (by kernel_rfl) (by kernel_rfl) rfl trivial (fun _ _ _ h => h) hM (fun w hC => r_loadC hl rfl one45 hC (by repeat (first | exact find_head | apply find_tail)) (by exact hS.h0)) rfl ?_
            clear hl a; intro a hl
            refine d_take (i := 4) hl rfl (by kernel_rfl) (by kernel_rfl) (by kernel_rfl) (by kernel_rfl) (by kernel_rfl) rfl trivial (fun _ _ _ h => h) hM (fun w hC => r_field hl rfl fld61_1) rfl ?_
            clear hl a; intro a hl
            refine d_take (i := 5) hl rfl (by kernel_rfl) (by kernel_rfl) (by kernel_rfl) (by kernel_rfl) (by kernel_rfl) rfl trivial (fun _ _ _ h => h) hM (fun w hC => r_loadC hl rfl one3 hC (by repeat (first | exact find_head | apply find_tail)) (by first | rfl)) rfl ?_
            clear hl a; intro a hl
            first | refine d_take (i := 6) hl rfl (by kernel_rfl) (by kernel_rfl) (by kernel_rfl) (by kernel_rfl) (by kernel_rfl) rfl trivial (fun _ _ _ h => h) hM (fun w hC => r_conv hl rfl Try.underlying3 Try.underlying58 (by simp only [Fits]; omega)) rfl ?_ | refine d_take (i := 6) hl rfl (by kernel_rfl) (by kernel_rfl) (by kernel_rfl) (by kernel_rfl) (by kernel_rfl) rfl trivial (fun _ _ _ h => h) hM (fun w hC => r_convW hl rfl Try.underlying3 Try.underlying58) rfl ?_
            clear hl a; intro a hl
            refine d_take (i := 7) hl rfl (by kernel_rfl) (by kernel_rfl) (by kernel_rfl) (by kernel_rfl) (by kernel_rfl) rfl trivial (fun _ _ _ h => h) hM (fun w hC => r_shl hl rfl rfl (by omega)) rfl ?_
            clear hl a; intro a hl
            rw [sh64_eq] at hl
            refine d_take (i := 8) hl rfl (by kernel_rfl) (by kernel_rfl) (by kernel_rfl) (by kernel_rfl) (by kernel_rfl) rfl trivial (fun _ _ _ h => h) hM (fun w hC => r_or hl rfl rfl) rfl ?_
            clear hl a; intro a hl
            refine d_take (i := 9) hl rfl (by kernel_rfl) (by kernel_rfl) (by kernel_rfl) (by kernel_rfl) (by kernel_rfl) rfl trivial (fun _ _ _ h => h) hM (fun w hC => r_move hl rfl) rfl ?_
            clear hl a; intro a hl
            refine d_take (i := 10) hl rfl (by kernel_rfl) (by kernel_rfl) (by kernel_rfl) (by kernel_rfl) (by kernel_rfl) rfl trivial (fun _ _ _ h => h) hM (fun w hC => r_nilCheck hl rfl) rfl ?_
            clear hl a; intro a hl
            refine d_take (i := 11) hl rfl (by kernel_rfl) (by kernel_rfl) (by kernel_rfl) (by kernel_rfl) (by kernel_rfl) rfl trivial (fun _ _ _ h => h) hM (fun w hC => r_field hl rfl fld47_1) rfl ?_
            clear hl a; intro a hl
            refine d_take (i := 12) hl rfl (by kernel_rfl) (by kernel_rfl) (by kernel_rfl) (by kernel_rfl) (by kernel_rfl) rfl trivial (fun _ _ _ h => h) hM (fun w hC => r_loadC hl rfl one41 hC (by repeat (first | exact find_head | apply find_tail)) (by exact hS.h1)) rfl ?_
            clear hl a; intro a hl
            refine d_take (i := 14) hl rfl (by kernel_rfl) (by kernel_rfl) (by kernel_rfl) (by kernel_rfl) (by kernel_rfl) rfl trivial (fun _ _ _ h => h) hM (fun w hC => r_move hl rfl) rfl ?_
            clear hl a; intro a hl
            refine d_take (i := 15) hl rfl (by kernel_rfl) (by kernel_rfl) (by kernel_rfl) (by kernel_rfl) (by kernel_rfl) rfl trivial (fun _ _ _ h => h) hM (fun w hC => r_nilCheck hl rfl) rfl ?_
            clear hl a; intro a hl
            refine d_take (i := 16) hl rfl (by kernel_rfl) (by kernel_rfl) (by kernel_rfl) (by kernel_rfl) (by kernel_rfl) rfl trivial (fun _ _ _ h => h) hM (fun w hC => r_field hl rfl fld47_2) rfl ?_
            clear hl a; intro a hl
            refine d_take (i := 17) hl rfl (by kernel_rfl) (by kernel_rfl) (by kernel_rfl) (by kernel_rfl) (by kernel_rfl) rfl trivial (fun _ _ _ h => h) hM (fun w hC => r_loadC hl rfl one3 hC (by repeat (first | exact find_head | apply find_tail)) (by exact hS.h2)) rfl ?_
            clear hl a; intro a hl
            refine d_two (i := 13) (j := 19) (by kernel_rfl) rfl rfl ?_ ?_
            ·
              try clear hM
              refine id (w_appendCopy hl hh rfl trivial app41 rfl rfl rfl hrs (fun b o m => by rw [List.mem_singleton] at m; cases m; exact heap_keep hh (hpre _ _ hS.nb)) (fl_all iI_one _) (by omega) (by omega) (by decide) ?_)
              clear hl hh a w; intro rv3 E3 a w hR3 hl hh
              have hh3 := hh.comm; clear hh; have hh := hh3; clear hh3
              simp only [List.cons_append, List.nil_append] at hh
              obtain ⟨gb, gc, gj, hgv, hgl, hgc, hgE⟩ := row_blk3 hR3 (by omega)
              subst hgv
              subst hgE
              first | replace hh := has_rot (A := [_]) hh | replace hh := has_rot (A := [_, _]) hh
              simp only [List.cons_append, List.nil_append] at hh
              have hM : Mem [(fb, C (fl SB.cells bs ++ jf) 47), (k9, C [.int .i64 (pk.1 : Int), .int .i64 (pk.2 : Int)] 61)] w := (by repeat (first | exact Mem.nil | refine Mem.consR hh (by assumption) (by simp) ?_ | refine Mem.cons hh.mem (by repeat (first | exact find_head | apply find_tail)) ?_))
              refine d_step (fun _ => hM) ?_
              refine d_take (i := 18) hl rfl (by kernel_rfl) (by kernel_rfl) (by kernel_rfl) (by kernel_rfl) (by kernel_rfl) rfl trivial (fun _ _ _ h => h) hM (fun w hC => r_build hl rfl zero47 bld47 (by simp only [fillL, setL, List.getElem?_cons_zero, List.getElem?_cons_succ, Value.cells, List.take_zero, List.take_succ_cons, List.take_nil, List.drop_zero, List.drop_succ_cons, List.drop_nil, List.length_cons, List.length_nil, List.cons_append, List.nil_append, List.append_nil, Nat.zero_add, Nat.add_zero, Nat.reduceAdd, Nat.reduceBEq, Nat.reduceEqDiff, Nat.ble, BEq.rfl, Bool.and_true, Bool.and_self, cond_true, beq_self_eq_true]; rfl)) rfl ?_
              clear hl a; intro a hl
              refine d_one (i := 19) (by kernel_rfl) rfl ?_
              try clear hM
              refine id (w_alloc hl hh rfl trivial zero47 rfl ?_)
              clear hl hh a w; intro k13 a w hl hh
              have hM : Mem [(fb, C (fl SB.cells bs ++ jf) 47), (k9, C [.int .i64 (pk.1 : Int), .int .i64 (pk.2 : Int)] 61)] w := (by repeat (first | exact Mem.nil | refine Mem.consR hh (by assumption) (by simp) ?_ | refine Mem.cons hh.mem (by repeat (first | exact find_head | apply find_tail)) ?_))
              refine d_step (fun _ => hM) ?_
              refine d_one (i := 20) (by kernel_rfl) rfl ?_
              try clear hM
              refine id (w_storeA hl hh trivial agg47 rfl rfl (by repeat (first | exact find_head | apply find_tail)) (by first | rfl | (simp; done)) (by first | (simp; done) | (simp; omega)) (by first | rfl | (simp; done)) (by first | (simp only [setL, List.getElem?_cons_zero, List.getElem?_cons_succ, Value.cells, List.take_zero, List.take_succ_cons, List.take_nil, List.drop_zero, List.drop_succ_cons, List.drop_nil, List.length_cons, List.length_nil, List.cons_append, List.nil_append, List.append_nil, Nat.zero_add, Nat.add_zero, Nat.reduceAdd, Nat.reduceBEq, Nat.reduceEqDiff, Nat.ble, BEq.rfl, Bool.and_true, Bool.and_self, cond_true, beq_self_eq_true]; rfl)) ?_)
              clear hh w; intro w hh
              refine d_step (fun h => absurd h (by decide)) ?_
              refine d_done (by kernel_rfl) ?_
              try clear hM
              have hl2 := hl.add (t := 0) (hl.add (t := 1) (hl.add (t := 2) (hl.add (t := 7) (hl.add (t := 9) (hl.add (t := 13) (hl.add (t := 17) (hl.add (t := 18) (hl.add (t := 19) (hl.nil) rfl) rfl) rfl) rfl) rfl) rfl) rfl) rfl) rfl; clear hl; have hl := hl2; clear hl2
              refine then_normal ?_
              refine c_seq ?_
              refine c_draw [(X.sb, C [.string X.hs, X.hv, .slice (some ⟨X.bb, 0, none⟩) X.n X.n, .int .i64 (X.vs : Int), .slice (some ⟨X.ob, 0, none⟩) X.vs X.vs] 44), (X.bb, C (fl lc X.ab) 34), (k9, C [.int .i64 (pk.1 : Int), .int .i64 (pk.2 : Int)] 61)] [10] mixed hh ?_
              clear hh w; intro w hh
              have hM : Mem [(X.sb, C [.string X.hs, X.hv, .slice (some ⟨X.bb, 0, none⟩) X.n X.n, .int .i64 (X.vs : Int), .slice (some ⟨X.ob, 0, none⟩) X.vs X.vs] 44), (X.bb, C (fl lc X.ab) 34), (k9, C [.int .i64 (pk.1 : Int), .int .i64 (pk.2 : Int)] 61)] w := (by repeat (first | exact Mem.nil | refine Mem.consR hh (by assumption) (by simp) ?_ | refine Mem.cons hh.mem (by repeat (first | exact find_head | apply find_tail)) ?_))
              refine d_take (i := 0) hl rfl (by kernel_rfl) (by kernel_rfl) (by kernel_rfl) (by kernel_rfl) (by kernel_rfl) rfl trivial (fun _ _ _ h => h) hM (fun w hC => r_move hl rfl) rfl ?_
              clear hl a; intro a hl
              refine d_take (i := 1) hl rfl (by kernel_rfl) (by kernel_rfl) (by kernel_rfl) (by kernel_rfl) (by kernel_rfl) rfl trivial (fun _ _ _ h => h) hM (fun w hC => r_nilCheck hl rfl) rfl ?_
              clear hl a; intro a hl
              refine d_take (i := 2) hl rfl (by kernel_rfl) (by kernel_rfl) (by kernel_rfl) (by kernel_rfl) (by kernel_rfl) rfl trivial (fun _ _ _ h => h) hM (fun w hC => r_field hl rfl fld44_1) rfl ?_
              clear hl a; intro a hl
              refine d_take (i := 3) hl rfl (by kernel_rfl) (by kernel_rfl) (by kernel_rfl) (by kernel_rfl) (by kernel_rfl) rfl trivial (fun _ _ _ h => h) hM (fun w hC => r_loadC hl rfl one25 hC (by repeat (first | exact find_head | apply find_tail)) (by rfl)) rfl ?_
              clear hl a; intro a hl
              refine d_take (i := 4) hl rfl (by kernel_rfl) (by kernel_rfl) (by kernel_rfl) (by kernel_rfl) (by kernel_rfl) rfl trivial (fun _ _ _ h => h) hM (fun w hC => r_field hl rfl fld61_1) rfl ?_
              clear hl a; intro a hl
              refine d_take (i := 5) hl rfl (by kernel_rfl) (by kernel_rfl) (by kernel_rfl) (by kernel_rfl) (by kernel_rfl) rfl trivial (fun _ _ _ h => h) hM (fun w hC => r_loadC hl rfl one3 hC (by repeat (first | exact find_head | apply find_tail)) (by first | rfl)) rfl ?_
              clear hl a; intro a hl
              refine d_take (i := 6) hl rfl (by kernel_rfl) (by kernel_rfl) (by kernel_rfl) (by kernel_rfl) (by kernel_rfl) rfl trivial (fun _ _ _ h => h) hM (fun w hC => r_indexS hl rfl rfl slc25 (by omega) (by omega) (by first | (simp only [Int.reduceToNat]; rfl) | exact toNat_add1 _ | exact toNat_add2 _ _ | exact toNat_emod _ _ | exact Int.toNat_natCast _ | rfl)) rfl ?_
              clear hl a; intro a hl
              refine d_take (i := 7) hl rfl (by kernel_rfl) (by kernel_rfl) (by kernel_rfl) (by kernel_rfl) (by kernel_rfl) rfl trivial (fun _ _ _ h => h) hM (fun w hC => r_field hl rfl fld34_2) rfl ?_
              clear hl a; intro a hl
              refine d_take (i := 8) hl rfl (by kernel_rfl) (by kernel_rfl) (by kernel_rfl) (by kernel_rfl) (by kernel_rfl) rfl trivial (fun _ _ _ h => h) hM (fun w hC => r_field hl rfl fld24_1) rfl ?_
              clear hl a; intro a hl
              refine d_take (i := 9) hl rfl (by kernel_rfl) (by kernel_rfl) (by kernel_rfl) (by kernel_rfl) (by kernel_rfl) rfl trivial (fun _ _ _ h => h) hM (fun w hC => r_loadC hl rfl one22 hC (by repeat (first | exact find_head | apply find_tail)) (by exact lc_args hab0)) rfl ?_
              clear hl a; intro a hl
              refine d_one (i := 10) (by kernel_rfl) rfl ?_
              try clear hM
              refine id (w_call hl hh rfl trivial rfl cal6 rfl (read_keep k13 0 gb gc [.int .u64 (bitsOf .or .u64 st.pl (sh64 pk.2)), .slice (some ⟨gb, 0, none⟩) st.num.length gc, .int .i64 st.nx] 47 st.num gj st.nx [bq.1, bq.2] (some ⟨ab, 0, none⟩) 2 [(ab, C (fl tc [(bq.1 : Int), (bq.2 : Int)] ++ []) 30)] (.inr ⟨ab, 2, [], rfl, rfl, rfl, Nat.le_refl _, rfl⟩) (fun z hz => by rw [List.mem_singleton] at hz; subst hz; exact ⟨fresh_ne hh (hpre _ _ hab) (Find.mem (by repeat (first | exact find_head | apply find_tail))), fresh_ne hh (hpre _ _ hab) (Find.mem (by repeat (first | exact find_head | apply find_tail)))⟩) rfl rfl (fun v hv => by simp at hv; rcases hv with rfl | rfl <;> omega) (by omega) (by simp) ⟨hok.nx.1, by have := hok.nx.2; omega⟩) (by repeat (first | exact keeps_nil | apply keeps_cons (by repeat (first | exact find_head | apply find_tail)) (by first  | rfl) | exact keeps_self | exact keeps_left | exact keeps_right | exact keeps_swap | apply keeps_mv)) (fun b o m => by rw [List.mem_singleton] at m; cases m; rw [List.append_nil]; exact heap_keep hh (hpre _ _ hab)) ?_)
              clear hl hh a w; intro vc Fc a w hR hl hh
              obtain ⟨Eo, hRo, hlen6, rfl⟩ := hR
              try simp only [List.cons_append, List.nil_append] at hh
              replace hh := has_drop2 hh
              refine d_step (fun h => absurd h (by decide)) ?_
              refine d_done (by kernel_rfl) ?_
              try clear hM
              have hl2 := hl.add (t := 0) (hl.add (t := 1) (hl.add (t := 2) (hl.add (t := 7) (hl.add (t := 13) (hl.add (t := 17) (hl.add (t := 18) (hl.add (t := 19) (hl.nil) rfl) rfl) rfl) rfl) rfl) rfl) rfl) rfl; clear hl; have hl := hl2; clear hl2
              refine then_normal ?_
              refine c_region ?_
              refine wl (wl_val hl rfl trivial (r_move hl rfl) ?_)
              clear hl a; intro a hl
              first | refine wl (w_loadA hl hh rfl trivial agg47 rfl (by repeat (first | exact find_head | apply find_tail)) (by first | (simp only [List.getElem?_cons_zero, List.getElem?_cons_succ, Value.cells, List.take_zero, List.take_succ_cons, List.take_nil, List.drop_zero, List.drop_succ_cons, List.drop_nil, List.length_cons, List.length_nil, List.cons_append, List.nil_append, List.append_nil, Nat.zero_add, Nat.add_zero, Nat.reduceAdd, Nat.reduceBEq, Nat.reduceEqDiff, Nat.ble, BEq.rfl, Bool.and_true, Bool.and_self, cond_true, beq_self_eq_true]; rfl)) (by first | rfl | (simp; done)) ?_) | refine wl (w_loadRA hl hh rfl trivial agg47 rfl hmp (by simp) hq9 rfl ?_)
              clear hl a; intro a hl
              refine wl (w_buildSlice hl hh rfl trivial app50 zero47 rfl rfl rfl rfl rfl (by simp only [fillL, arrPl, List.range_succ, List.range_zero, List.map_cons, List.map_nil, List.map_append, List.nil_append, List.replicate_succ, List.replicate_zero, List.flatten_cons, List.flatten_nil, Nat.zero_mul, Nat.mul_one, Nat.one_mul, Nat.reduceMul, setL, List.getElem?_cons_zero, List.getElem?_cons_succ, Value.cells, List.take_zero, List.take_succ_cons, List.take_nil, List.drop_zero, List.drop_succ_cons, List.drop_nil, List.length_cons, List.length_nil, List.cons_append, List.nil_append, List.append_nil, Nat.zero_add, Nat.add_zero, Nat.reduceAdd, Nat.reduceBEq, Nat.reduceEqDiff, Nat.ble, BEq.rfl, Bool.and_true, Bool.and_self, cond_true, beq_self_eq_true]; rfl) ?_)
              clear hl hh a w; intro k91 a w hl hh
              refine wl (w_append (news := [.int .u64 (bitsOf .or .u64 st.pl (sh64 pk.2)), .slice (some ⟨gb, 0, none⟩) st.num.length gc, .int .i64 (rdP st.num st.nx [bq.1, bq.2]).2.1]) hl hh rfl trivial app50 rfl rfl rfl hrow (by repeat (first | exact keeps_left | apply keeps_mv)) (hh.mem _ _ (Find.mem (by repeat (first | exact find_head | apply find_tail)))) rfl rfl rfl (by omega) (by omega) (by omega) (by decide) ?_)
              clear hl hh a w; intro rv2 E2 a w hR2 hl hh
              have hh3 := hh.comm; clear hh; have hh := hh3; clear hh3
              simp only [List.cons_append, List.nil_append] at hh
              refine wl (wl_val hl rfl trivial (r_assign hl rfl) ?_)
              clear hl a; intro a hl
              refine w_nil ?_
              have hl2 := hl.add (t := 0) (hl.add (t := 1) (hl.add (t := 2) (hl.add (t := 7) (hl.add (t := 17) (hl.add (t := 18) (hl.add (t := 19) (hl.nil) rfl) rfl) rfl) rfl) rfl) rfl) rfl; clear hl; have hl := hl2; clear hl2
              refine blk_normal ?_
              refine then_normal ?_
              refine c_region ?_
              first | refine wl (wl_val hl rfl trivial (r_add hl rfl rfl (by simp only [Fits]; omega)) ?_) | refine wl (wl_val hl rfl trivial (r_addW hl rfl rfl) ?_)
              clear hl a; intro a hl
              refine wl (wl_val hl rfl trivial (r_move hl rfl) ?_)
              clear hl a; intro a hl
              refine w_nil ?_
              have hl2 := hl.add (t := 0) (hl.add (t := 1) (hl.add (t := 2) (hl.add (t := 7) (hl.add (t := 17) (hl.add (t := 18) (hl.add (t := 19) (hl.nil) rfl) rfl) rfl) rfl) rfl) rfl) rfl; clear hl; have hl := hl2; clear hl2
              refine then_normal ?_
              try replace hh := has_fix hh
              first | refine ⟨⟨k + 1, nbs ++ [⟨bitsOf .or .u64 st.pl (sh64 pk.2), (rdP st.num st.nx [bq.1, bq.2]).1, (rdP st.num st.nx [bq.1, bq.2]).2.1, gb, gc, gj⟩], rv2, E2, Es ++ [(gb, C (fl iI (rdP st.num st.nx [bq.1, bq.2]).1 ++ gj) 3)]⟩, (by simp only; omega), ⟨by simp only; omega, (by show List.map SB.core (nbs ++ [_]) = _; rw [List.map_append, hco, followP_no hpk hcore hbq (by rw [htw]; assumption)]; rfl), (by show (nbs ++ [_]).length ≤ k + 1; rw [List.length_append]; simp only [List.length_singleton]; omega), new_row hlen6 rfl hR2, (fun b hb => by rcases List.mem_append.1 hb with h | h; exact List.mem_append_left _ (hblk b h); (rw [List.mem_singleton] at h; subst h; exact List.mem_append_right _ (List.mem_singleton.2 rfl))), (fun b hb => by rcases List.mem_append.1 hb with h | h; exact hokn b h; (rw [List.mem_singleton] at h; subst h; exact (new_ok hok bq _ gb gc gj (hJ.rd st (List.mem_of_getElem? hst)) hr).1)), ⟨(fun b hb => by rcases List.mem_append.1 hb with h | h; exact hfj.rd b h; (rw [List.mem_singleton] at h; subst h; exact (new_ok hok bq 0 gb gc gj (hJ.rd st (List.mem_of_getElem? hst)) hr).2)), (fun b hb => by rcases List.mem_append.1 hb with h | h; exact hfj.cp b h; (rw [List.mem_singleton] at h; subst h; exact ⟨by rw [← hgl, List.length_append, List.length_append, fl_len iI_len, fl_len iI_len]; show (rdP st.num st.nx [bq.1, bq.2]).1.length * 1 + _ = _; rw [hlen6], by show (rdP st.num st.nx [bq.1, bq.2]).1.length ≤ gc; rw [hlen6]; exact hgc⟩))⟩⟩, hl.addE (t := 19) (hl.addE (t := 7) (hl.addE (t := 0) (hl.addE (t := 1) (hl.addE (t := 2) (hl.addE (t := 17) (hl.addE (t := 18) (hl.nil) rfl (by first | rfl | rfl)) rfl (by first | rfl | rfl)) rfl (by first | rfl | rfl)) rfl (by first | rfl | rfl)) rfl (by first | rfl | rfl)) rfl (by first | rfl | rfl)) rfl (by first | rfl | rfl), hh.keep (by repeat (first | exact keeps_nil | apply keeps_cons (by repeat (first | exact find_head | apply find_tail)) (by first  | rfl) | exact keeps_self | exact keeps_left | exact keeps_right | exact keeps_swap | apply keeps_mv))⟩ | refine ⟨⟨k + 1, nbs, nv, En, Es⟩, (by simp only; omega), ⟨by simp only; omega, hco.trans (followP_yes hpk hcore hbq (by rw [htw]; assumption)).symm, by simp only; omega, hrow, hblk, hokn, hfj⟩, hl.addE (t := 19) (hl.addE (t := 7) (hl.addE (t := 0) (hl.addE (t := 1) (hl.addE (t := 2) (hl.addE (t := 17) (hl.addE (t := 18) (hl.nil) rfl (by first | rfl | rfl)) rfl (by first | rfl | rfl)) rfl (by first | rfl | rfl)) rfl (by first | rfl | rfl)) rfl (by first | rfl | rfl)) rfl (by first | rfl | rfl)) rfl (by first | rfl | rfl), hh.keep (by repeat (first | exact keeps_nil | apply keeps_cons (by repeat (first | exact find_head | apply find_tail)) (by first  | rfl) | exact keeps_self | exact keeps_left | exact keeps_right | exact keeps_swap | apply keeps_mv))⟩
            ·
              try clear hM
              refine id (w_alloc hl hh rfl trivial zero47 rfl ?_)
              clear hl hh a w; intro k13 a w hl hh
              have hM : Mem [(fb, C (fl SB.cells bs ++ jf) 47), (k9, C [.int .i64 (pk.1 : Int), .int .i64 (pk.2 : Int)] 61)] w := (by repeat (first | exact Mem.nil | refine Mem.consR hh (by assumption) (by simp) ?_ | refine Mem.cons hh.mem (by repeat (first | exact find_head | apply find_tail)) ?_))
              refine d_step (fun _ => hM) ?_
              refine d_one (i := 13) (by kernel_rfl) rfl ?_
              try clear hM
              refine id (w_appendCopy hl hh rfl trivial app41 rfl rfl rfl hrs (fun b o m => by rw [List.mem_singleton] at m; cases m; exact heap_keep hh (hpre _ _ hS.nb)) (fl_all iI_one _) (by omega) (by omega) (by decide) ?_)
              clear hl hh a w; intro rv3 E3 a w hR3 hl hh
              have hh3 := hh.comm; clear hh; have hh := hh3; clear hh3
              simp only [List.cons_append, List.nil_append] at hh
              obtain ⟨gb, gc, gj, hgv, hgl, hgc, hgE⟩ := row_blk3 hR3 (by omega)
              subst hgv
              subst hgE
              first | replace hh := has_rot (A := [_]) hh | replace hh := has_rot (A := [_, _]) hh
              simp only [List.cons_append, List.nil_append] at hh
              have hM : Mem [(fb, C (fl SB.cells bs ++ jf) 47), (k9, C [.int .i64 (pk.1 : Int), .int .i64 (pk.2 : Int)] 61)] w := (by repeat (first | exact Mem.nil | refine Mem.consR hh (by assumption) (by simp) ?_ | refine Mem.cons hh.mem (by repeat (first | exact find_head | apply find_tail)) ?_))
              refine d_step (fun _ => hM) ?_
              refine d_take (i := 18) hl rfl (by kernel_rfl) (by kernel_rfl) (by kernel_rfl) (by kernel_rfl) (by kernel_rfl) rfl trivial (fun _ _ _ h => h) hM (fun w hC => r_build hl rfl zero47 bld47 (by simp only [fillL, setL, List.getElem?_cons_zero, List.getElem?_cons_succ, Value.cells, List.take_zero, List.take_succ_cons, List.take_nil, List.drop_zero, List.drop_succ_cons, List.drop_nil, List.length_cons, List.length_nil, List.cons_append, List.nil_append, List.append_nil, Nat.zero_add, Nat.add_zero, Nat.reduceAdd, Nat.reduceBEq, Nat.reduceEqDiff, Nat.ble, BEq.rfl, Bool.and_true, Bool.and_self, cond_true, beq_self_eq_true]; rfl)) rfl ?_
              clear hl a; intro a hl
              refine d_one (i := 20) (by kernel_rfl) rfl ?_
              try clear hM
              refine id (w_storeA hl hh trivial agg47 rfl rfl (by repeat (first | exact find_head | apply find_tail)) (by first | rfl | (simp; done)) (by first | (simp; done) | (simp; omega)) (by first | rfl | (simp; done)) (by first | (simp only [setL, List.getElem?_cons_zero, List.getElem?_cons_succ, Value.cells, List.take_zero, List.take_succ_cons, List.take_nil, List.drop_zero, List.drop_succ_cons, List.drop_nil, List.length_cons, List.length_nil, List.cons_append, List.nil_append, List.append_nil, Nat.zero_add, Nat.add_zero, Nat.reduceAdd, Nat.reduceBEq, Nat.reduceEqDiff, Nat.ble, BEq.rfl, Bool.and_true, Bool.and_self, cond_true, beq_self_eq_true]; rfl)) ?_)
              clear hh w; intro w hh
              refine d_step (fun h => absurd h (by decide)) ?_
              refine d_done (by kernel_rfl) ?_
              try clear hM
              have hl2 := hl.add (t := 0) (hl.add (t := 1) (hl.add (t := 2) (hl.add (t := 7) (hl.add (t := 9) (hl.add (t := 13) (hl.add (t := 17) (hl.add (t := 18) (hl.add (t := 19) (hl.nil) rfl) rfl) rfl) rfl) rfl) rfl) rfl) rfl) rfl; clear hl; have hl := hl2; clear hl2
              refine then_normal ?_
              refine c_seq ?_
              refine c_draw [(X.sb, C [.string X.hs, X.hv, .slice (some ⟨X.bb, 0, none⟩) X.n X.n, .int .i64 (X.vs : Int), .slice (some ⟨X.ob, 0, none⟩) X.vs X.vs] 44), (X.bb, C (fl lc X.ab) 34), (k9, C [.int .i64 (pk.1 : Int), .int .i64 (pk.2 : Int)] 61)] [10] mixed hh ?_
              clear hh w; intro w hh
              have hM : Mem [(X.sb, C [.string X.hs, X.hv, .slice (some ⟨X.bb, 0, none⟩) X.n X.n, .int .i64 (X.vs : Int), .slice (some ⟨X.ob, 0, none⟩) X.vs X.vs] 44), (X.bb, C (fl lc X.ab) 34), (k9, C [.int .i64 (pk.1 : Int), .int .i64 (pk.2 : Int)] 61)] w := (by repeat (first | exact Mem.nil | refine Mem.consR hh (by assumption) (by simp) ?_ | refine Mem.cons hh.mem (by repeat (first | exact find_head | apply find_tail)) ?_))
              refine d_take (i := 0) hl rfl (by kernel_rfl) (by kernel_rfl) (by kernel_rfl) (by kernel_rfl) (by kernel_rfl) rfl trivial (fun _ _ _ h => h) hM (fun w hC => r_move hl rfl) rfl ?_
              clear hl a; intro a hl
              refine d_take (i := 1) hl rfl (by kernel_rfl) (by kernel_rfl) (by kernel_rfl) (by kernel_rfl) (by kernel_rfl) rfl trivial (fun _ _ _ h => h) hM (fun w hC => r_nilCheck hl rfl) rfl ?_
              clear hl a; intro a hl
              refine d_take (i := 2) hl rfl (by kernel_rfl) (by kernel_rfl) (by kernel_rfl) (by kernel_rfl) (by kernel_rfl) rfl trivial (fun _ _ _ h => h) hM (fun w hC => r_field hl rfl fld44_1) rfl ?_
              clear hl a; intro a hl
              refine d_take (i := 3) hl rfl (by kernel_rfl) (by kernel_rfl) (by kernel_rfl) (by kernel_rfl) (by kernel_rfl) rfl trivial (fun _ _ _ h => h) hM (fun w hC => r_loadC hl rfl one25 hC (by repeat (first | exact find_head | apply find_tail)) (by rfl)) rfl ?_
              clear hl a; intro a hl
              refine d_take (i := 4) hl rfl (by kernel_rfl) (by kernel_rfl) (by kernel_rfl) (by kernel_rfl) (by kernel_rfl) rfl trivial (fun _ _ _ h => h) hM (fun w hC => r_field hl rfl fld61_1) rfl ?_
              clear hl a; intro a hl
              refine d_take (i := 5) hl rfl (by kernel_rfl) (by kernel_rfl) (by kernel_rfl) (by kernel_rfl) (by kernel_rfl) rfl trivial (fun _ _ _ h => h) hM (fun w hC => r_loadC hl rfl one3 hC (by repeat (first | exact find_head | apply find_tail)) (by first | rfl)) rfl ?_
              clear hl a; intro a hl
              refine d_take (i := 6) hl rfl (by kernel_rfl) (by kernel_rfl) (by kernel_rfl) (by kernel_rfl) (by kernel_rfl) rfl trivial (fun _ _ _ h => h) hM (fun w hC => r_indexS hl rfl rfl slc25 (by omega) (by omega) (by first | (simp only [Int.reduceToNat]; rfl) | exact toNat_add1 _ | exact toNat_add2 _ _ | exact toNat_emod _ _ | exact Int.toNat_natCast _ | rfl)) rfl ?_
              clear hl a; intro a hl
              refine d_take (i := 7) hl rfl (by kernel_rfl) (by kernel_rfl) (by kernel_rfl) (by kernel_rfl) (by kernel_rfl) rfl trivial (fun _ _ _ h => h) hM (fun w hC => r_field hl rfl fld34_2) rfl ?_
              clear hl a; intro a hl
              refine d_take (i := 8) hl rfl (by kernel_rfl) (by kernel_rfl) (by kernel_rfl) (by kernel_rfl) (by kernel_rfl) rfl trivial (fun _ _ _ h => h) hM (fun w hC => r_field hl rfl fld24_1) rfl ?_
              clear hl a; intro a hl
              refine d_take (i := 9) hl rfl (by kernel_rfl) (by kernel_rfl) (by kernel_rfl) (by kernel_rfl) (by kernel_rfl) rfl trivial (fun _ _ _ h => h) hM (fun w hC => r_loadC hl rfl one22 hC (by repeat (first | exact find_head | apply find_tail)) (by exact lc_args hab0)) rfl ?_
              clear hl a; intro a hl
              refine d_one (i := 10) (by kernel_rfl) rfl ?_
              try clear hM
              refine id (w_call hl hh rfl trivial rfl cal6 rfl (read_keep k13 0 gb gc [.int .u64 (bitsOf .or .u64 st.pl (sh64 pk.2)), .slice (some ⟨gb, 0, none⟩) st.num.length gc, .int .i64 st.nx] 47 st.num gj st.nx [bq.1, bq.2] (some ⟨ab, 0, none⟩) 2 [(ab, C (fl tc [(bq.1 : Int), (bq.2 : Int)] ++ []) 30)] (.inr ⟨ab, 2, [], rfl, rfl, rfl, Nat.le_refl _, rfl⟩) (fun z hz => by rw [List.mem_singleton] at hz; subst hz; exact ⟨fresh_ne hh (hpre _ _ hab) (Find.mem (by repeat (first | exact find_head | apply find_tail))), fresh_ne hh (hpre _ _ hab) (Find.mem (by repeat (first | exact find_head | apply find_tail)))⟩) rfl rfl (fun v hv => by simp at hv; rcases hv with rfl | rfl <;> omega) (by omega) (by simp) ⟨hok.nx.1, by have := hok.nx.2; omega⟩) (by repeat (first | exact keeps_nil | apply keeps_cons (by repeat (first | exact find_head | apply find_tail)) (by first  | rfl) | exact keeps_self | exact keeps_left | exact keeps_right | exact keeps_swap | apply keeps_mv)) (fun b o m => by rw [List.mem_singleton] at m; cases m; rw [List.append_nil]; exact heap_keep hh (hpre _ _ hab)) ?_)
              clear hl hh a w; intro vc Fc a w hR hl hh
              obtain ⟨Eo, hRo, hlen6, rfl⟩ := hR
              try simp only [List.cons_append, List.nil_append] at hh
              replace hh := has_drop2 hh
              refine d_step (fun h => absurd h (by decide)) ?_
              refine d_done (by kernel_rfl) ?_
              try clear hM
              have hl2 := hl.add (t := 0) (hl.add (t := 1) (hl.add (t := 2) (hl.add (t := 7) (hl.add (t := 13) (hl.add (t := 17) (hl.add (t := 18) (hl.add (t := 19) (hl.nil) rfl) rfl) rfl) rfl) rfl) rfl) rfl) rfl; clear hl; have hl := hl2; clear hl2
              refine then_normal ?_
              refine c_region ?_
              refine wl (wl_val hl rfl trivial (r_move hl rfl) ?_)
              clear hl a; intro a hl
              first | refine wl (w_loadA hl hh rfl trivial agg47 rfl (by repeat (first | exact find_head | apply find_tail)) (by first | (simp only [List.getElem?_cons_zero, List.getElem?_cons_succ, Value.cells, List.take_zero, List.take_succ_cons, List.take_nil, List.drop_zero, List.drop_succ_cons, List.drop_nil, List.length_cons, List.length_nil, List.cons_append, List.nil_append, List.append_nil, Nat.zero_add, Nat.add_zero, Nat.reduceAdd, Nat.reduceBEq, Nat.reduceEqDiff, Nat.ble, BEq.rfl, Bool.and_true, Bool.and_self, cond_true, beq_self_eq_true]; rfl)) (by first | rfl | (simp; done)) ?_) | refine wl (w_loadRA hl hh rfl trivial agg47 rfl hmp (by simp) hq9 rfl ?_)
              clear hl a; intro a hl
              refine wl (w_buildSlice hl hh rfl trivial app50 zero47 rfl rfl rfl rfl rfl (by simp only [fillL, arrPl, List.range_succ, List.range_zero, List.map_cons, List.map_nil, List.map_append, List.nil_append, List.replicate_succ, List.replicate_zero, List.flatten_cons, List.flatten_nil, Nat.zero_mul, Nat.mul_one, Nat.one_mul, Nat.reduceMul, setL, List.getElem?_cons_zero, List.getElem?_cons_succ, Value.cells, List.take_zero, List.take_succ_cons, List.take_nil, List.drop_zero, List.drop_succ_cons, List.drop_nil, List.length_cons, List.length_nil, List.cons_append, List.nil_append, List.append_nil, Nat.zero_add, Nat.add_zero, Nat.reduceAdd, Nat.reduceBEq, Nat.reduceEqDiff, Nat.ble, BEq.rfl, Bool.and_true, Bool.and_self, cond_true, beq_self_eq_true]; rfl) ?_)
              clear hl hh a w; intro k91 a w hl hh
              refine wl (w_append (news := [.int .u64 (bitsOf .or .u64 st.pl (sh64 pk.2)), .slice (some ⟨gb, 0, none⟩) st.num.length gc, .int .i64 (rdP st.num st.nx [bq.1, bq.2]).2.1]) hl hh rfl trivial app50 rfl rfl rfl hrow (by repeat (first | exact keeps_left | apply keeps_mv)) (hh.mem _ _ (Find.mem (by repeat (first | exact find_head | apply find_tail)))) rfl rfl rfl (by omega) (by omega) (by omega) (by decide) ?_)
              clear hl hh a w; intro rv2 E2 a w hR2 hl hh
              have hh3 := hh.comm; clear hh; have hh := hh3; clear hh3
              simp only [List.cons_append, List.nil_append] at hh
              refine wl (wl_val hl rfl trivial (r_assign hl rfl) ?_)
              clear hl a; intro a hl
              refine w_nil ?_
              have hl2 := hl.add (t := 0) (hl.add (t := 1) (hl.add (t := 2) (hl.add (t := 7) (hl.add (t := 17) (hl.add (t := 18) (hl.add (t := 19) (hl.nil) rfl) rfl) rfl) rfl) rfl) rfl) rfl; clear hl; have hl := hl2; clear hl2
              refine blk_normal ?_
              refine then_normal ?_
              refine c_region ?_
              first | refine wl (wl_val hl rfl trivial (r_add hl rfl rfl (by simp only [Fits]; omega)) ?_) | refine wl (wl_val hl rfl trivial (r_addW hl rfl rfl) ?_)
              clear hl a; intro a hl
              refine wl (wl_val hl rfl trivial (r_move hl rfl) ?_)
              clear hl a; intro a hl
              refine w_nil ?_
              have hl2 := hl.add (t := 0) (hl.add (t := 1) (hl.add (t := 2) (hl.add (t := 7) (hl.add (t := 17) (hl.add (t := 18) (hl.add (t := 19) (hl.nil) rfl) rfl) rfl) rfl) rfl) rfl) rfl; clear hl; have hl := hl2; clear hl2
              refine then_normal ?_
              try replace hh := has_fix hh
              first | refine ⟨⟨k + 1, nbs ++ [⟨bitsOf .or .u64 st.pl (sh64 pk.2), (rdP st.num st.nx [bq.1, bq.2]).1, (rdP st.num st.nx [bq.1, bq.2]).2.1, gb, gc, gj⟩], rv2, E2, Es ++ [(gb, C (fl iI (rdP st.num st.nx [bq.1, bq.2]).1 ++ gj) 3)]⟩, (by simp only; omega), ⟨by simp only; omega, (by show List.map SB.core (nbs ++ [_]) = _; rw [List.map_append, hco, followP_no hpk hcore hbq (by rw [htw]; assumption)]; rfl), (by show (nbs ++ [_]).length ≤ k + 1; rw [List.length_append]; simp only [List.length_singleton]; omega), new_row hlen6 rfl hR2, (fun b hb => by rcases List.mem_append.1 hb with h | h; exact List.mem_append_left _ (hblk b h); (rw [List.mem_singleton] at h; subst h; exact List.mem_append_right _ (List.mem_singleton.2 rfl))), (fun b hb => by rcases List.mem_append.1 hb with h | h; exact hokn b h; (rw [List.mem_singleton] at h; subst h; exact (new_ok hok bq _ gb gc gj (hJ.rd st (List.mem_of_getElem? hst)) hr).1)), ⟨(fun b hb => by rcases List.mem_append.1 hb with h | h; exact hfj.rd b h; (rw [List.mem_singleton] at h; subst h; exact (new_ok hok bq 0 gb gc gj (hJ.rd st (List.mem_of_getElem? hst)) hr).2)), (fun b hb => by rcases List.mem_append.1 hb with h | h; exact hfj.cp b h; (rw [List.mem_singleton] at h; subst h; exact ⟨by rw [← hgl, List.length_append, List.length_append, fl_len iI_len, fl_len iI_len]; show (rdP st.num st.nx [bq.1, bq.2]).1.length * 1 + _ = _; rw [hlen6], by show (rdP st.num st.nx [bq.1, bq.2]).1.length ≤ gc; rw [hlen6]; exact hgc⟩))⟩⟩, hl.addE (t := 19) (hl.addE (t := 7) (hl.addE (t := 0) (hl.addE (t := 1) (hl.addE (t := 2) (hl.addE (t := 17) (hl.addE (t := 18) (hl.nil) rfl (by first | rfl | rfl)) rfl (by first | rfl | rfl)) rfl (by first | rfl | rfl)) rfl (by first | rfl | rfl)) rfl (by first | rfl | rfl)) rfl (by first | rfl | rfl)) rfl (by first | rfl | rfl), hh.keep (by repeat (first | exact keeps_nil | apply keeps_cons (by repeat (first | exact find_head | apply find_tail)) (by first  | rfl) | exact keeps_self | exact keeps_left | exact keeps_right | exact keeps_swap | apply keeps_mv))⟩ | refine ⟨⟨k + 1, nbs, nv, En, Es⟩, (by simp only; omega), ⟨by simp only; omega, hco.trans (followP_yes hpk hcore hbq (by rw [htw]; assumption)).symm, by simp only; omega, hrow, hblk, hokn, hfj⟩, hl.addE (t := 19) (hl.addE (t := 7) (hl.addE (t := 0) (hl.addE (t := 1) (hl.addE (t := 2) (hl.addE (t := 17) (hl.addE (t := 18) (hl.nil) rfl (by first | rfl | rfl)) rfl (by first | rfl | rfl)) rfl (by first | rfl | rfl)) rfl (by first | rfl | rfl)) rfl (by first | rfl | rfl)) rfl (by first | rfl | rfl)) rfl (by first | rfl | rfl), hh.keep (by repeat (first | exact keeps_nil | apply keeps_cons (by repeat (first | exact find_head | apply find_tail)) (by first  | rfl) | exact keeps_self | exact keeps_left | exact keeps_right | exact keeps_swap | apply keeps_mv))⟩
      · intro hg2; clear hl; intro hl
        try simp only [decide_eq_true_eq, decide_eq_false_iff_not, Bool.not_eq_true', Bool.not_eq_false', Bool.not_eq_true, Bool.not_eq_false, Bool.and_eq_true, Bool.or_eq_true, Bool.and_eq_false_iff, Bool.or_eq_false_iff, Bool.not_not, ne_eq, Int.not_lt, Int.not_le, Decidable.not_not, beq_iff_eq, bne_iff_ne] at hg2
        refine d_skip (i := 13) hl rfl (by kernel_rfl) (by kernel_rfl) (by kernel_rfl) (by kernel_rfl) (by kernel_rfl) rfl ⟨_, _, rfl, rfl, rfl⟩ (fun _ _ _ h => h) hM ?_
        clear hl a; intro a hl
        refine d_skip (i := 14) hl rfl (by kernel_rfl) (by kernel_rfl) (by kernel_rfl) (by kernel_rfl) (by kernel_rfl) rfl ⟨_, _, rfl, rfl, rfl⟩ (fun _ _ _ h => h) hM ?_
        clear hl a; intro a hl
        refine d_takeL (i := 15) hl rfl (by kernel_rfl) (by kernel_rfl) (by kernel_rfl) (by kernel_rfl) (by kernel_rfl) rfl trivial (fun _ _ _ h => h) (fun w => r_pickF hl rfl rfl) rfl ?_
        clear hl a; intro a hl
        refine d_done (by kernel_rfl) ?_
        try clear hM
        have hl2 := hl.add (t := 0) (hl.add (t := 1) (hl.add (t := 2) (hl.add (t := 7) (hl.add (t := 9) (hl.add (t := 10) (hl.add (t := 11) (hl.add (t := 12) (hl.add (t := 17) (hl.add (t := 18) (hl.add (t := 19) (hl.add (t := 45) (hl.nil) rfl) rfl) rfl) rfl) rfl) rfl) rfl) rfl) rfl) rfl) rfl) rfl; clear hl; have hl := hl2; clear hl2
        refine then_normal ?_
        refine c_condF hl rfl ?_
        have htw := tw_fin ht1 ht2 (by first | exact .inl (by assumption) | exact .inr (.inl (by omega)) | exact .inr (.inr ⟨j, pr, rfl, hpr, by omega⟩))
        refine wp_exit ?_
        refine then_exit ?_
        refine then_exit ?_
        refine blk_exit ?_
        refine then_normal ?_
        refine c_seq ?_
        refine c_seq ?_
        refine c_region ?_
        refine wl (wl_val hl rfl trivial (r_move hl rfl) ?_)
        clear hl a; intro a hl
        refine w_nil ?_
        have hl2 := hl.add (t := 0) (hl.add (t := 1) (hl.add (t := 2) (hl.add (t := 7) (hl.add (t := 9) (hl.add (t := 10) (hl.add (t := 17) (hl.add (t := 18) (hl.add (t := 19) (hl.add (t := 58) (hl.nil) rfl) rfl) rfl) rfl) rfl) rfl) rfl) rfl) rfl) rfl; clear hl; have hl := hl2; clear hl2
        refine then_normal ?_
        refine c_cond hl rfl ?_ ?_
        · intro hc2
          try simp only [decide_eq_true_eq, decide_eq_false_iff_not, Bool.not_eq_true', Bool.not_eq_false', Bool.not_eq_true, Bool.not_eq_false, Bool.and_eq_true, Bool.or_eq_true, Bool.and_eq_false_iff, Bool.or_eq_false_iff, Bool.not_not, ne_eq, Int.not_lt, Int.not_le, Decidable.not_not, beq_iff_eq, bne_iff_ne] at hc2
          refine wp_exit ?_
          refine then_exit ?_
          refine blk_exit ?_
          refine then_normal ?_
          refine c_region ?_
          first | refine wl (wl_val hl rfl trivial (r_add hl rfl rfl (by simp only [Fits]; omega)) ?_) | refine wl (wl_val hl rfl trivial (r_addW hl rfl rfl) ?_)
          clear hl a; intro a hl
          refine wl (wl_val hl rfl trivial (r_move hl rfl) ?_)
          clear hl a; intro a hl
          refine w_nil ?_
          have hl2 := hl.add (t := 0) (hl.add (t := 1) (hl.add (t := 2) (hl.add (t := 7) (hl.add (t := 17) (hl.add (t := 18) (hl.add (t := 19) (hl.nil) rfl) rfl) rfl) rfl) rfl) rfl) rfl; clear hl; have hl := hl2; clear hl2
          refine then_normal ?_
          try replace hh := has_fix hh
          first | refine ⟨⟨k + 1, nbs ++ [⟨bitsOf .or .u64 st.pl (sh64 pk.2), (rdP st.num st.nx [bq.1, bq.2]).1, (rdP st.num st.nx [bq.1, bq.2]).2.1, gb, gc, gj⟩], rv2, E2, Es ++ [(gb, C (fl iI (rdP st.num st.nx [bq.1, bq.2]).1 ++ gj) 3)]⟩, (by simp only; omega), ⟨by simp only; omega, (by show List.map SB.core (nbs ++ [_]) = _; rw [List.map_append, hco, followP_no hpk hcore hbq (by rw [htw]; assumption)]; rfl), (by show (nbs ++ [_]).length ≤ k + 1; rw [List.length_append]; simp only [List.length_singleton]; omega), new_row hlen6 rfl hR2, (fun b hb => by rcases List.mem_append.1 hb with h | h; exact List.mem_append_left _ (hblk b h); (rw [List.mem_singleton] at h; subst h; exact List.mem_append_right _ (List.mem_singleton.2 rfl))), (fun b hb => by rcases List.mem_append.1 hb with h | h; exact hokn b h; (rw [List.mem_singleton] at h; subst h; exact (new_ok hok bq _ gb gc gj (hJ.rd st (List.mem_of_getElem? hst)) hr).1)), ⟨(fun b hb => by rcases List.mem_append.1 hb with h | h; exact hfj.rd b h; (rw [List.mem_singleton] at h; subst h; exact (new_ok hok bq 0 gb gc gj (hJ.rd st (List.mem_of_getElem? hst)) hr).2)), (fun b hb => by rcases List.mem_append.1 hb with h | h; exact hfj.cp b h; (rw [List.mem_singleton] at h; subst h; exact ⟨by rw [← hgl, List.length_append, List.length_append, fl_len iI_len, fl_len iI_len]; show (rdP st.num st.nx [bq.1, bq.2]).1.length * 1 + _ = _; rw [hlen6], by show (rdP st.num st.nx [bq.1, bq.2]).1.length ≤ gc; rw [hlen6]; exact hgc⟩))⟩⟩, hl.addE (t := 19) (hl.addE (t := 7) (hl.addE (t := 0) (hl.addE (t := 1) (hl.addE (t := 2) (hl.addE (t := 17) (hl.addE (t := 18) (hl.nil) rfl (by first | rfl | rfl)) rfl (by first | rfl | rfl)) rfl (by first | rfl | rfl)) rfl (by first | rfl | rfl)) rfl (by first | rfl | rfl)) rfl (by first | rfl | rfl)) rfl (by first | rfl | rfl), hh.keep (by repeat (first | exact keeps_nil | apply keeps_cons (by repeat (first | exact find_head | apply find_tail)) (by first  | rfl) | exact keeps_self | exact keeps_left | exact keeps_right | exact keeps_swap | apply keeps_mv))⟩ | refine ⟨⟨k + 1, nbs, nv, En, Es⟩, (by simp only; omega), ⟨by simp only; omega, hco.trans (followP_yes hpk hcore hbq (by rw [htw]; assumption)).symm, by simp only; omega, hrow, hblk, hokn, hfj⟩, hl.addE (t := 19) (hl.addE (t := 7) (hl.addE (t := 0) (hl.addE (t := 1) (hl.addE (t := 2) (hl.addE (t := 17) (hl.addE (t := 18) (hl.nil) rfl (by first | rfl | rfl)) rfl (by first | rfl | rfl)) rfl (by first | rfl | rfl)) rfl (by first | rfl | rfl)) rfl (by first | rfl | rfl)) rfl (by first | rfl | rfl)) rfl (by first | rfl | rfl), hh.keep (by repeat (first | exact keeps_nil | apply keeps_cons (by repeat (first | exact find_head | apply find_tail)) (by first  | rfl) | exact keeps_self | exact keeps_left | exact keeps_right | exact keeps_swap | apply keeps_mv))⟩
        · intro hc2
          try simp only [decide_eq_true_eq, decide_eq_false_iff_not, Bool.not_eq_true', Bool.not_eq_false', Bool.not_eq_true, Bool.not_eq_false, Bool.and_eq_true, Bool.or_eq_true, Bool.and_eq_false_iff, Bool.or_eq_false_iff, Bool.not_not, ne_eq, Int.not_lt, Int.not_le, Decidable.not_not, beq_iff_eq, bne_iff_ne] at hc2
          refine wp_skip ?_
          refine then_normal ?_
          refine c_seq ?_
          refine c_draw [(fb, C (fl SB.cells bs ++ jf) 47), (k9, C [.int .i64 (pk.1 : Int), .int .i64 (pk.2 : Int)] 61)] [20] mixed hh ?_
          clear hh w; intro w hh
          have hM : Mem [(fb, C (fl SB.cells bs ++ jf) 47), (k9, C [.int .i64 (pk.1 : Int), .int .i64 (pk.2 : Int)] 61)] w := (by repeat (first | exact Mem.nil | refine Mem.consR hh (by assumption) (by simp) ?_ | refine Mem.cons hh.mem (by repeat (first | exact find_head | apply find_tail)) ?_))
          refine d_take (i := 0) hl rfl (by kernel_rfl) (by kernel_rfl) (by kernel_rfl) (by kernel_rfl) (by kernel_rfl) rfl trivial (fun _ _ _ h => h) hM (fun w hC => r_move hl rfl) rfl ?_
          clear hl a; intro a hl
          refine d_take (i := 1) hl rfl (by kernel_rfl) (by kernel_rfl) (by kernel_rfl) (by kernel_rfl) (by kernel_rfl) rfl trivial (fun _ _ _ h => h) hM (fun w hC => r_nilCheck hl rfl) rfl ?_
          clear hl a; intro a hl
          refine d_take (i := 2) hl rfl (by kernel_rfl) (by kernel_rfl) (by kernel_rfl) (by kernel_rfl) (by kernel_rfl) rfl trivial (fun _ _ _ h => h) hM (fun w hC => r_field hl rfl fld47_0) rfl ?_
          clear hl a; intro a hl
          refine d_take (i := 3) hl rfl (by kernel_rfl) (by kernel_rfl) (by kernel_rfl) (by kernel_rfl) (by kernel_rfl) rfl trivial (fun _ _ _ h => h) hM (fun w hC => r_loadC hl rfl one45 hC (by repeat (first | exact find_head | apply find_tail)) (by exact hS.h0)) rfl ?_
          clear hl a; intro a hl
          refine d_take (i := 4) hl rfl (by kernel_rfl) (by kernel_rfl) (by kernel_rfl) (by kernel_rfl) (by kernel_rfl) rfl trivial (fun _ _ _ h => h) hM (fun w hC => r_field hl rfl fld61_1) rfl ?_
          clear hl a; intro a hl
          refine d_take (i := 5) hl rfl (by kernel_rfl) (by kernel_rfl) (by kernel_rfl) (by kernel_rfl) (by kernel_rfl) rfl trivial (fun _ _ _ h => h) hM (fun w hC => r_loadC hl rfl one3 hC (by repeat (first | exact find_head | apply find_tail)) (by first | rfl)) rfl ?_
          clear hl a; intro a hl
          first | refine d_take (i := 6) hl rfl (by kernel_rfl) (by kernel_rfl) (by kernel_rfl) (by kernel_rfl) (by kernel_rfl) rfl trivial (fun _ _ _ h => h) hM (fun w hC => r_conv hl rfl Try.underlying3 Try.underlying58 (by simp only [Fits]; omega)) rfl ?_ | refine d_take (i := 6) hl rfl (by kernel_rfl) (by kernel_rfl) (by kernel_rfl) (by kernel_rfl) (by kernel_rfl) rfl trivial (fun _ _ _ h => h) hM (fun w hC => r_convW hl rfl Try.underlying3 Try.underlying58) rfl ?_
          clear hl a; intro a hl
          refine d_take (i := 7) hl rfl (by kernel_rfl) (by kernel_rfl) (by kernel_rfl) (by kernel_rfl) (by kernel_rfl) rfl trivial (fun _ _ _ h => h) hM (fun w hC => r_shl hl rfl rfl (by omega)) rfl ?_
          clear hl a; intro a hl
          rw [sh64_eq] at hl
          refine d_take (i := 8) hl rfl (by kernel_rfl) (by kernel_rfl) (by kernel_rfl) (by kernel_rfl) (by kernel_rfl) rfl trivial (fun _ _ _ h => h) hM (fun w hC => r_or hl rfl rfl) rfl ?_
          clear hl a; intro a hl
          refine d_take (i := 9) hl rfl (by kernel_rfl) (by kernel_rfl) (by kernel_rfl) (by kernel_rfl) (by kernel_rfl) rfl trivial (fun _ _ _ h => h) hM (fun w hC => r_move hl rfl) rfl ?_
          clear hl a; intro a hl
          refine d_take (i := 10) hl rfl (by kernel_rfl) (by kernel_rfl) (by kernel_rfl) (by kernel_rfl) (by kernel_rfl) rfl trivial (fun _ _ _ h => h) hM (fun w hC => r_nilCheck hl rfl) rfl ?_
          clear hl a; intro a hl
          refine d_take (i := 11) hl rfl (by kernel_rfl) (by kernel_rfl) (by kernel_rfl) (by kernel_rfl) (by kernel_rfl) rfl trivial (fun _ _ _ h => h) hM (fun w hC => r_field hl rfl fld47_1) rfl ?_
          clear hl a; intro a hl
          refine d_take (i := 12) hl rfl (by kernel_rfl) (by kernel_rfl) (by kernel_rfl) (by kernel_rfl) (by kernel_rfl) rfl trivial (fun _ _ _ h => h) hM (fun w hC => r_loadC hl rfl one41 hC (by repeat (first | exact find_head | apply find_tail)) (by exact hS.h1)) rfl ?_
          clear hl a; intro a hl
          refine d_take (i := 14) hl rfl (by kernel_rfl) (by kernel_rfl) (by kernel_rfl) (by kernel_rfl) (by kernel_rfl) rfl trivial (fun _ _ _ h => h) hM (fun w hC => r_move hl rfl) rfl ?_
          clear hl a; intro a hl
          refine d_take (i := 15) hl rfl (by kernel_rfl) (by kernel_rfl) (by kernel_rfl) (by kernel_rfl) (by kernel_rfl) rfl trivial (fun _ _ _ h => h) hM (fun w hC => r_nilCheck hl rfl) rfl ?_
          clear hl a; intro a hl
          refine d_take (i := 16) hl rfl (by kernel_rfl) (by kernel_rfl) (by kernel_rfl) (by kernel_rfl) (by kernel_rfl) rfl trivial (fun _ _ _ h => h) hM (fun w hC => r_field hl rfl fld47_2) rfl ?_
          clear hl a; intro a hl
          refine d_take (i := 17) hl rfl (by kernel_rfl) (by kernel_rfl) (by kernel_rfl) (by kernel_rfl) (by kernel_rfl) rfl trivial (fun _ _ _ h => h) hM (fun w hC => r_loadC hl rfl one3 hC (by repeat (first | exact find_head | apply find_tail)) (by exact hS.h2)) rfl ?_
          clear hl a; intro a hl
          refine d_two (i := 13) (j := 19) (by kernel_rfl) rfl rfl ?_ ?_
          ·
            try clear hM
            refine id (w_appendCopy hl hh rfl trivial app41 rfl rfl rfl hrs (fun b o m => by rw [List.mem_singleton] at m; cases m; exact heap_keep hh (hpre _ _ hS.nb)) (fl_all iI_one _) (by omega) (by omega) (by decide) ?_)
            clear hl hh a w; intro rv3 E3 a w hR3 hl hh
            have hh3 := hh.comm; clear hh; have hh := hh3; clear hh3
            simp only [List.cons_append, List.nil_append] at hh
            obtain ⟨gb, gc, gj, hgv, hgl, hgc, hgE⟩ := row_blk3 hR3 (by omega)
            subst hgv
            subst hgE
            first | replace hh := has_rot (A := [_]) hh | replace hh := has_rot (A := [_, _]) hh
            simp only [List.cons_append, List.nil_append] at hh
            have hM : Mem [(fb, C (fl SB.cells bs ++ jf) 47), (k9, C [.int .i64 (pk.1 : Int), .int .i64 (pk.2 : Int)] 61)] w := (by repeat (first | exact Mem.nil | refine Mem.consR hh (by assumption) (by simp) ?_ | refine Mem.cons hh.mem (by repeat (first | exact find_head | apply find_tail)) ?_))
            refine d_step (fun _ => hM) ?_
            refine d_take (i := 18) hl rfl (by kernel_rfl) (by kernel_rfl) (by kernel_rfl) (by kernel_rfl) (by kernel_rfl) rfl trivial (fun _ _ _ h => h) hM (fun w hC => r_build hl rfl zero47 bld47 (by simp only [fillL, setL, List.getElem?_cons_zero, List.getElem?_cons_succ, Value.cells, List.take_zero, List.take_succ_cons, List.take_nil, List.drop_zero, List.drop_succ_cons, List.drop_nil, List.length_cons, List.length_nil, List.cons_append, List.nil_append, List.append_nil, Nat.zero_add, Nat.add_zero, Nat.reduceAdd, Nat.reduceBEq, Nat.reduceEqDiff, Nat.ble, BEq.rfl, Bool.and_true, Bool.and_self, cond_true, beq_self_eq_true]; rfl)) rfl ?_
            clear hl a; intro a hl
            refine d_one (i := 19) (by kernel_rfl) rfl ?_
            try clear hM
            refine id (w_alloc hl hh rfl trivial zero47 rfl ?_)
            clear hl hh a w; intro k13 a w hl hh
            have hM : Mem [(fb, C (fl SB.cells bs ++ jf) 47), (k9, C [.int .i64 (pk.1 : Int), .int .i64 (pk.2 : Int)] 61)] w := (by repeat (first | exact Mem.nil | refine Mem.consR hh (by assumption) (by simp) ?_ | refine Mem.cons hh.mem (by repeat (first | exact find_head | apply find_tail)) ?_))
            refine d_step (fun _ => hM) ?_
            refine d_one (i := 20) (by kernel_rfl) rfl ?_
            try clear hM
            refine id (w_storeA hl hh trivial agg47 rfl rfl (by repeat (first | exact find_head | apply find_tail)) (by first | rfl | (simp; done)) (by first | (simp; done) | (simp; omega)) (by first | rfl | (simp; done)) (by first | (simp only [setL, List.getElem?_cons_zero, List.getElem?_cons_succ, Value.cells, List.take_zero, List.take_succ_cons, List.take_nil, List.drop_zero, List.drop_succ_cons, List.drop_nil, List.length_cons, List.length_nil, List.cons_append, List.nil_append, List.append_nil, Nat.zero_add, Nat.add_zero, Nat.reduceAdd, Nat.reduceBEq, Nat.reduceEqDiff, Nat.ble, BEq.rfl, Bool.and_true, Bool.and_self, cond_true, beq_self_eq_true]; rfl)) ?_)
            clear hh w; intro w hh
            refine d_step (fun h => absurd h (by decide)) ?_
            refine d_done (by kernel_rfl) ?_
            try clear hM
            have hl2 := hl.add (t := 0) (hl.add (t := 1) (hl.add (t := 2) (hl.add (t := 7) (hl.add (t := 9) (hl.add (t := 13) (hl.add (t := 17) (hl.add (t := 18) (hl.add (t := 19) (hl.nil) rfl) rfl) rfl) rfl) rfl) rfl) rfl) rfl) rfl; clear hl; have hl := hl2; clear hl2
            refine then_normal ?_
            refine c_seq ?_
            refine c_draw [(X.sb, C [.string X.hs, X.hv, .slice (some ⟨X.bb, 0, none⟩) X.n X.n, .int .i64 (X.vs : Int), .slice (some ⟨X.ob, 0, none⟩) X.vs X.vs] 44), (X.bb, C (fl lc X.ab) 34), (k9, C [.int .i64 (pk.1 : Int), .int .i64 (pk.2 : Int)] 61)] [10] mixed hh ?_
            clear hh w; intro w hh
            have hM : Mem [(X.sb, C [.string X.hs, X.hv, .slice (some ⟨X.bb, 0, none⟩) X.n X.n, .int .i64 (X.vs : Int), .slice (some ⟨X.ob, 0, none⟩) X.vs X.vs] 44), (X.bb, C (fl lc X.ab) 34), (k9, C [.int .i64 (pk.1 : Int), .int .i64 (pk.2 : Int)] 61)] w := (by repeat (first | exact Mem.nil | refine Mem.consR hh (by assumption) (by simp) ?_ | refine Mem.cons hh.mem (by repeat (first | exact find_head | apply find_tail)) ?_))
            refine d_take (i := 0) hl rfl (by kernel_rfl) (by kernel_rfl) (by kernel_rfl) (by kernel_rfl) (by kernel_rfl) rfl trivial (fun _ _ _ h => h) hM (fun w hC => r_move hl rfl) rfl ?_
            clear hl a; intro a hl
            refine d_take (i := 1) hl rfl (by kernel_rfl) (by kernel_rfl) (by kernel_rfl) (by kernel_rfl) (by kernel_rfl) rfl trivial (fun _ _ _ h => h) hM (fun w hC => r_nilCheck hl rfl) rfl ?_
            clear hl a; intro a hl
            refine d_take (i := 2) hl rfl (by kernel_rfl) (by kernel_rfl) (by kernel_rfl) (by kernel_rfl) (by kernel_rfl) rfl trivial (fun _ _ _ h => h) hM (fun w hC => r_field hl rfl fld44_1) rfl ?_
            clear hl a; intro a hl
            refine d_take (i := 3) hl rfl (by kernel_rfl) (by kernel_rfl) (by kernel_rfl) (by kernel_rfl) (by kernel_rfl) rfl trivial (fun _ _ _ h => h) hM (fun w hC => r_loadC hl rfl one25 hC (by repeat (first | exact find_head | apply find_tail)) (by rfl)) rfl ?_
            clear hl a; intro a hl
            refine d_take (i := 4) hl rfl (by kernel_rfl) (by kernel_rfl) (by kernel_rfl) (by kernel_rfl) (by kernel_rfl) rfl trivial (fun _ _ _ h => h) hM (fun w hC => r_field hl rfl fld61_1) rfl ?_
            clear hl a; intro a hl
            refine d_take (i := 5) hl rfl (by kernel_rfl) (by kernel_rfl) (by kernel_rfl) (by kernel_rfl) (by kernel_rfl) rfl trivial (fun _ _ _ h => h) hM (fun w hC => r_loadC hl rfl one3 hC (by repeat (first | exact find_head | apply find_tail)) (by first | rfl)) rfl ?_
            clear hl a; intro a hl
            refine d_take (i := 6) hl rfl (by kernel_rfl) (by kernel_rfl) (by kernel_rfl) (by kernel_rfl) (by kernel_rfl) rfl trivial (fun _ _ _ h => h) hM (fun w hC => r_indexS hl rfl rfl slc25 (by omega) (by omega) (by first | (simp only [Int.reduceToNat]; rfl) | exact toNat_add1 _ | exact toNat_add2 _ _ | exact toNat_emod _ _ | exact Int.toNat_natCast _ | rfl)) rfl ?_
            clear hl a; intro a hl
            refine d_take (i := 7) hl rfl (by kernel_rfl) (by kernel_rfl) (by kernel_rfl) (by kernel_rfl) (by kernel_rfl) rfl trivial (fun _ _ _ h => h) hM (fun w hC => r_field hl rfl fld34_2) rfl ?_
            clear hl a; intro a hl
            refine d_take (i := 8) hl rfl (by kernel_rfl) (by kernel_rfl) (by kernel_rfl) (by kernel_rfl) (by kernel_rfl) rfl trivial (fun _ _ _ h => h) hM (fun w hC => r_field hl rfl fld24_1) rfl ?_
            clear hl a; intro a hl
            refine d_take (i := 9) hl rfl (by kernel_rfl) (by kernel_rfl) (by kernel_rfl) (by kernel_rfl) (by kernel_rfl) rfl trivial (fun _ _ _ h => h) hM (fun w hC => r_loadC hl rfl one22 hC (by repeat (first | exact find_head | apply find_tail)) (by exact lc_args hab0)) rfl ?_
            clear hl a; intro a hl
            refine d_one (i := 10) (by kernel_rfl) rfl ?_
            try clear hM
            refine id (w_call hl hh rfl trivial rfl cal6 rfl (read_keep k13 0 gb gc [.int .u64 (bitsOf .or .u64 st.pl (sh64 pk.2)), .slice (some ⟨gb, 0, none⟩) st.num.length gc, .int .i64 st.nx] 47 st.num gj st.nx [bq.1, bq.2] (some ⟨ab, 0, none⟩) 2 [(ab, C (fl tc [(bq.1 : Int), (bq.2 : Int)] ++ []) 30)] (.inr ⟨ab, 2, [], rfl, rfl, rfl, Nat.le_refl _, rfl⟩) (fun z hz => by rw [List.mem_singleton] at hz; subst hz; exact ⟨fresh_ne hh (hpre _ _ hab) (Find.mem (by repeat (first | exact find_head | apply find_tail))), fresh_ne hh (hpre _ _ hab) (Find.mem (by repeat (first | exact find_head | apply find_tail)))⟩) rfl rfl (fun v hv => by simp at hv; rcases hv with rfl | rfl <;> omega) (by omega) (by simp) ⟨hok.nx.1, by have := hok.nx.2; omega⟩) (by repeat (first | exact keeps_nil | apply keeps_cons (by repeat (first | exact find_head | apply find_tail)) (by first  | rfl) | exact keeps_self | exact keeps_left | exact keeps_right | exact keeps_swap | apply keeps_mv)) (fun b o m => by rw [List.mem_singleton] at m; cases m; rw [List.append_nil]; exact heap_keep hh (hpre _ _ hab)) ?_)
            clear hl hh a w; intro vc Fc a w hR hl hh
            obtain ⟨Eo, hRo, hlen6, rfl⟩ := hR
            try simp only [List.cons_append, List.nil_append] at hh
            replace hh := has_drop2 hh
            refine d_step (fun h => absurd h (by decide)) ?_
            refine d_done (by kernel_rfl) ?_
            try clear hM
            have hl2 := hl.add (t := 0) (hl.add (t := 1) (hl.add (t := 2) (hl.add (t := 7) (hl.add (t := 13) (hl.add (t := 17) (hl.add (t := 18) (hl.add (t := 19) (hl.nil) rfl) rfl) rfl) rfl) rfl) rfl) rfl) rfl; clear hl; have hl := hl2; clear hl2
            refine then_normal ?_
            refine c_region ?_
            refine wl (wl_val hl rfl trivial (r_move hl rfl) ?_)
            clear hl a; intro a hl
            first | refine wl (w_loadA hl hh rfl trivial agg47 rfl (by repeat (first | exact find_head | apply find_tail)) (by first | (simp only [List.getElem?_cons_zero, List.getElem?_cons_succ, Value.cells, List.take_zero, List.take_succ_cons, List.take_nil, List.drop_zero, List.drop_succ_cons, List.drop_nil, List.length_cons, List.length_nil, List.cons_append, List.nil_append, List.append_nil, Nat.zero_add, Nat.add_zero, Nat.reduceAdd, Nat.reduceBEq, Nat.reduceEqDiff, Nat.ble, BEq.rfl, Bool.and_true, Bool.and_self, cond_true, beq_self_eq_true]; rfl)) (by first | rfl | (simp; done)) ?_) | refine wl (w_loadRA hl hh rfl trivial agg47 rfl hmp (by simp) hq9 rfl ?_)
            clear hl a; intro a hl
            refine wl (w_buildSlice hl hh rfl trivial app50 zero47 rfl rfl rfl rfl rfl (by simp only [fillL, arrPl, List.range_succ, List.range_zero, List.map_cons, List.map_nil, List.map_append, List.nil_append, List.replicate_succ, List.replicate_zero, List.flatten_cons, List.flatten_nil, Nat.zero_mul, Nat.mul_one, Nat.one_mul, Nat.reduceMul, setL, List.getElem?_cons_zero, List.getElem?_cons_succ, Value.cells, List.take_zero, List.take_succ_cons, List.take_nil, List.drop_zero, List.drop_succ_cons, List.drop_nil, List.length_cons, List.length_nil, List.cons_append, List.nil_append, List.append_nil, Nat.zero_add, Nat.add_zero, Nat.reduceAdd, Nat.reduceBEq, Nat.reduceEqDiff, Nat.ble, BEq.rfl, Bool.and_true, Bool.and_self, cond_true, beq_self_eq_true]; rfl) ?_)
            clear hl hh a w; intro k91 a w hl hh
            refine wl (w_append (news := [.int .u64 (bitsOf .or .u64 st.pl (sh64 pk.2)), .slice (some ⟨gb, 0, none⟩) st.num.length gc, .int .i64 (rdP st.num st.nx [bq.1, bq.2]).2.1]) hl hh rfl trivial app50 rfl rfl rfl hrow (by repeat (first | exact keeps_left | apply keeps_mv)) (hh.mem _ _ (Find.mem (by repeat (first | exact find_head | apply find_tail)))) rfl rfl rfl (by omega) (by omega) (by omega) (by decide) ?_)
            clear hl hh a w; intro rv2 E2 a w hR2 hl hh
            have hh3 := hh.comm; clear hh; have hh := hh3; clear hh3
            simp only [List.cons_append, List.nil_append] at hh
            refine wl (wl_val hl rfl trivial (r_assign hl rfl) ?_)
            clear hl a; intro a hl
            refine w_nil ?_
            have hl2 := hl.add (t := 0) (hl.add (t := 1) (hl.add (t := 2) (hl.add (t := 7) (hl.add (t := 17) (hl.add (t := 18) (hl.add (t := 19) (hl.nil) rfl) rfl) rfl) rfl) rfl) rfl) rfl; clear hl; have hl := hl2; clear hl2
            refine blk_normal ?_
            refine then_normal ?_
            refine c_region ?_
            first | refine wl (wl_val hl rfl trivial (r_add hl rfl rfl (by simp only [Fits]; omega)) ?_) | refine wl (wl_val hl rfl trivial (r_addW hl rfl rfl) ?_)
            clear hl a; intro a hl
            refine wl (wl_val hl rfl trivial (r_move hl rfl) ?_)
            clear hl a; intro a hl
            refine w_nil ?_
            have hl2 := hl.add (t := 0) (hl.add (t := 1) (hl.add (t := 2) (hl.add (t := 7) (hl.add (t := 17) (hl.add (t := 18) (hl.add (t := 19) (hl.nil) rfl) rfl) rfl) rfl) rfl) rfl) rfl; clear hl; have hl := hl2; clear hl2
            refine then_normal ?_
            try replace hh := has_fix hh
            first | refine ⟨⟨k + 1, nbs ++ [⟨bitsOf .or .u64 st.pl (sh64 pk.2), (rdP st.num st.nx [bq.1, bq.2]).1, (rdP st.num st.nx [bq.1, bq.2]).2.1, gb, gc, gj⟩], rv2, E2, Es ++ [(gb, C (fl iI (rdP st.num st.nx [bq.1, bq.2]).1 ++ gj) 3)]⟩, (by simp only; omega), ⟨by simp only; omega, (by show List.map SB.core (nbs ++ [_]) = _; rw [List.map_append, hco, followP_no hpk hcore hbq (by rw [htw]; assumption)]; rfl), (by show (nbs ++ [_]).length ≤ k + 1; rw [List.length_append]; simp only [List.length_singleton]; omega), new_row hlen6 rfl hR2, (fun b hb => by rcases List.mem_append.1 hb with h | h; exact List.mem_append_left _ (hblk b h); (rw [List.mem_singleton] at h; subst h; exact List.mem_append_right _ (List.mem_singleton.2 rfl))), (fun b hb => by rcases List.mem_append.1 hb with h | h; exact hokn b h; (rw [List.mem_singleton] at h; subst h; exact (new_ok hok bq _ gb gc gj (hJ.rd st (List.mem_of_getElem? hst)) hr).1)), ⟨(fun b hb => by rcases List.mem_append.1 hb with h | h; exact hfj.rd b h; (rw [List.mem_singleton] at h; subst h; exact (new_ok hok bq 0 gb gc gj (hJ.rd st (List.mem_of_getElem? hst)) hr).2)), (fun b hb => by rcases List.mem_append.1 hb with h | h; exact hfj.cp b h; (rw [List.mem_singleton] at h; subst h; exact ⟨by rw [← hgl, List.length_append, List.length_append, fl_len iI_len, fl_len iI_len]; show (rdP st.num st.nx [bq.1, bq.2]).1.length * 1 + _ = _; rw [hlen6], by show (rdP st.num st.nx [bq.1, bq.2]).1.length ≤ gc; rw [hlen6]; exact hgc⟩))⟩⟩, hl.addE (t := 19) (hl.addE (t := 7) (hl.addE (t := 0) (hl.addE (t := 1) (hl.addE (t := 2) (hl.addE (t := 17) (hl.addE (t := 18) (hl.nil) rfl (by first | rfl | rfl)) rfl (by first | rfl | rfl)) rfl (by first | rfl | rfl)) rfl (by first | rfl | rfl)) rfl (by first | rfl | rfl)) rfl (by first | rfl | rfl)) rfl (by first | rfl | rfl), hh.keep (by repeat (first | exact keeps_nil | apply keeps_cons (by repeat (first | exact find_head | apply find_tail)) (by first  | rfl) | exact keeps_self | exact keeps_left | exact keeps_right | exact keeps_swap | apply keeps_mv))⟩ | refine ⟨⟨k + 1, nbs, nv, En, Es⟩, (by simp only; omega), ⟨by simp only; omega, hco.trans (followP_yes hpk hcore hbq (by rw [htw]; assumption)).symm, by simp only; omega, hrow, hblk, hokn, hfj⟩, hl.addE (t := 19) (hl.addE (t := 7) (hl.addE (t := 0) (hl.addE (t := 1) (hl.addE (t := 2) (hl.addE (t := 17) (hl.addE (t := 18) (hl.nil) rfl (by first | rfl | rfl)) rfl (by first | rfl | rfl)) rfl (by first | rfl | rfl)) rfl (by first | rfl | rfl)) rfl (by first | rfl | rfl)) rfl (by first | rfl | rfl)) rfl (by first | rfl | rfl), hh.keep (by repeat (first | exact keeps_nil | apply keeps_cons (by repeat (first | exact find_head | apply find_tail)) (by first  | rfl) | exact keeps_self | exact keeps_left | exact keeps_right | exact keeps_swap | apply keeps_mv))⟩
          ·
            try clear hM
            refine id (w_alloc hl hh rfl trivial zero47 rfl ?_)
            clear hl hh a w; intro k13 a w hl hh
            have hM : Mem [(fb, C (fl SB.cells bs ++ jf) 47), (k9, C [.int .i64 (pk.1 : Int), .int .i64 (pk.2 : Int)] 61)] w := (by repeat (first | exact Mem.nil | refine Mem.consR hh (by assumption) (by simp) ?_ | refine Mem.cons hh.mem (by repeat (first | exact find_head | apply find_tail)) ?_))
            refine d_step (fun _ => hM) ?_
            refine d_one (i := 13) (by kernel_rfl) rfl ?_
            try clear hM
            refine id (w_appendCopy hl hh rfl trivial app41 rfl rfl rfl hrs (fun b o m => by rw [List.mem_singleton] at m; cases m; exact heap_keep hh (hpre _ _ hS.nb)) (fl_all iI_one _) (by omega) (by omega) (by decide) ?_)
            clear hl hh a w; intro rv3 E3 a w hR3 hl hh
            have hh3 := hh.comm; clear hh; have hh := hh3; clear hh3
            simp only [List.cons_append, List.nil_append] at hh
            obtain ⟨gb, gc, gj, hgv, hgl, hgc, hgE⟩ := row_blk3 hR3 (by omega)
            subst hgv
            subst hgE
            first | replace hh := has_rot (A := [_]) hh | replace hh := has_rot (A := [_, _]) hh
            simp only [List.cons_append, List.nil_append] at hh
            have hM : Mem [(fb, C (fl SB.cells bs ++ jf) 47), (k9, C [.int .i64 (pk.1 : Int), .int .i64 (pk.2 : Int)] 61)] w := (by repeat (first | exact Mem.nil | refine Mem.consR hh (by assumption) (by simp) ?_ | refine Mem.cons hh.mem (by repeat (first | exact find_head | apply find_tail)) ?_))
            refine d_step (fun _ => hM) ?_
            refine d_take (i := 18) hl rfl (by kernel_rfl) (by kernel_rfl) (by kernel_rfl) (by kernel_rfl) (by kernel_rfl) rfl trivial (fun _ _ _ h => h) hM (fun w hC => r_build hl rfl zero47 bld47 (by simp only [fillL, setL, List.getElem?_cons_zero, List.getElem?_cons_succ, Value.cells, List.take_zero, List.take_succ_cons, List.take_nil, List.drop_zero, List.drop_succ_cons, List.drop_nil, List.length_cons, List.length_nil, List.cons_append, List.nil_append, List.append_nil, Nat.zero_add, Nat.add_zero, Nat.reduceAdd, Nat.reduceBEq, Nat.reduceEqDiff, Nat.ble, BEq.rfl, Bool.and_true, Bool.and_self, cond_true, beq_self_eq_true]; rfl)) rfl ?_
            clear hl a; intro a hl
            refine d_one (i := 20) (by kernel_rfl) rfl ?_
            try clear hM
            refine id (w_storeA hl hh trivial agg47 rfl rfl (by repeat (first | exact find_head | apply find_tail)) (by first | rfl | (simp; done)) (by first | (simp; done) | (simp; omega)) (by first | rfl | (simp; done)) (by first | (simp only [setL, List.getElem?_cons_zero, List.getElem?_cons_succ, Value.cells, List.take_zero, List.take_succ_cons, List.take_nil, List.drop_zero, List.drop_succ_cons, List.drop_nil, List.length_cons, List.length_nil, List.cons_append, List.nil_append, List.append_nil, Nat.zero_add, Nat.add_zero, Nat.reduceAdd, Nat.reduceBEq, Nat.reduceEqDiff, Nat.ble, BEq.rfl, Bool.and_true, Bool.and_self, cond_true, beq_self_eq_true]; rfl)) ?_)
            clear hh w; intro w hh
            refine d_step (fun h => absurd h (by decide)) ?_
            refine d_done (by kernel_rfl) ?_
            try clear hM
            have hl2 := hl.add (t := 0) (hl.add (t := 1) (hl.add (t := 2) (hl.add (t := 7) (hl.add (t := 9) (hl.add (t := 13) (hl.add (t := 17) (hl.add (t := 18) (hl.add (t := 19) (hl.nil) rfl) rfl) rfl) rfl) rfl) rfl) rfl) rfl) rfl; clear hl; have hl := hl2; clear hl2
            refine then_normal ?_
            refine c_seq ?_
            refine c_draw [(X.sb, C [.string X.hs, X.hv, .slice (some ⟨X.bb, 0, none⟩) X.n X.n, .int .i64 (X.vs : Int), .slice (some ⟨X.ob, 0, none⟩) X.vs X.vs] 44), (X.bb, C (fl lc X.ab) 34), (k9, C [.int .i64 (pk.1 : Int), .int .i64 (pk.2 : Int)] 61)] [10] mixed hh ?_
            clear hh w; intro w hh
            have hM : Mem [(X.sb, C [.string X.hs, X.hv, .slice (some ⟨X.bb, 0, none⟩) X.n X.n, .int .i64 (X.vs : Int), .slice (some ⟨X.ob, 0, none⟩) X.vs X.vs] 44), (X.bb, C (fl lc X.ab) 34), (k9, C [.int .i64 (pk.1 : Int), .int .i64 (pk.2 : Int)] 61)] w := (by repeat (first | exact Mem.nil | refine Mem.consR hh (by assumption) (by simp) ?_ | refine Mem.cons hh.mem (by repeat (first | exact find_head | apply find_tail)) ?_))
            refine d_take (i := 0) hl rfl (by kernel_rfl) (by kernel_rfl) (by kernel_rfl) (by kernel_rfl) (by kernel_rfl) rfl trivial (fun _ _ _ h => h) hM (fun w hC => r_move hl rfl) rfl ?_
            clear hl a; intro a hl
            refine d_take (i := 1) hl rfl (by kernel_rfl) (by kernel_rfl) (by kernel_rfl) (by kernel_rfl) (by kernel_rfl) rfl trivial (fun _ _ _ h => h) hM (fun w hC => r_nilCheck hl rfl) rfl ?_
            clear hl a; intro a hl
            refine d_take (i := 2) hl rfl (by kernel_rfl) (by kernel_rfl) (by kernel_rfl) (by kernel_rfl) (by kernel_rfl) rfl trivial (fun _ _ _ h => h) hM (fun w hC => r_field hl rfl fld44_1) rfl ?_
            clear hl a; intro a hl
            refine d_take (i := 3) hl rfl (by kernel_rfl) (by kernel_rfl) (by kernel_rfl) (by kernel_rfl) (by kernel_rfl) rfl trivial (fun _ _ _ h => h) hM (fun w hC => r_loadC hl rfl one25 hC (by repeat (first | exact find_head | apply find_tail)) (by rfl)) rfl ?_
            clear hl a; intro a hl
            refine d_take (i := 4) hl rfl (by kernel_rfl) (by kernel_rfl) (by kernel_rfl) (by kernel_rfl) (by kernel_rfl) rfl trivial (fun _ _ _ h => h) hM (fun w hC => r_field hl rfl fld61_1) rfl ?_
            clear hl a; intro a hl
            refine d_take (i := 5) hl rfl (by kernel_rfl) (by kernel_rfl) (by kernel_rfl) (by kernel_rfl) (by kernel_rfl) rfl trivial (fun _ _ _ h => h) hM (fun w hC => r_loadC hl rfl one3 hC (by repeat (first | exact find_head | apply find_tail)) (by first | rfl)) rfl ?_
            clear hl a; intro a hl
            refine d_take (i := 6) hl rfl (by kernel_rfl) (by kernel_rfl) (by kernel_rfl) (by kernel_rfl) (by kernel_rfl) rfl trivial (fun _ _ _ h => h) hM (fun w hC => r_indexS hl rfl rfl slc25 (by omega) (by omega) (by first | (simp only [Int.reduceToNat]; rfl) | exact toNat_add1 _ | exact toNat_add2 _ _ | exact toNat_emod _ _ | exact Int.toNat_natCast _ | rfl)) rfl ?_
            clear hl a; intro a hl
            refine d_take (i := 7) hl rfl (by kernel_rfl) (by kernel_rfl) (by kernel_rfl) (by kernel_rfl) (by kernel_rfl) rfl trivial (fun _ _ _ h => h) hM (fun w hC => r_field hl rfl fld34_2) rfl ?_
            clear hl a; intro a hl
            refine d_take (i := 8) hl rfl (by kernel_rfl) (by kernel_rfl) (by kernel_rfl) (by kernel_rfl) (by kernel_rfl) rfl trivial (fun _ _ _ h => h) hM (fun w hC => r_field hl rfl fld24_1) rfl ?_
            clear hl a; intro a hl
            refine d_take (i := 9) hl rfl (by kernel_rfl) (by kernel_rfl) (by kernel_rfl) (by kernel_rfl) (by kernel_rfl) rfl trivial (fun _ _ _ h => h) hM (fun w hC => r_loadC hl rfl one22 hC (by repeat (first | exact find_head | apply find_tail)) (by exact lc_args hab0)) rfl ?_
            clear hl a; intro a hl
            refine d_one (i := 10) (by kernel_rfl) rfl ?_
            try clear hM
            refine id (w_call hl hh rfl trivial rfl cal6 rfl (read_keep k13 0 gb gc [.int .u64 (bitsOf .or .u64 st.pl (sh64 pk.2)), .slice (some ⟨gb, 0, none⟩) st.num.length gc, .int .i64 st.nx] 47 st.num gj st.nx [bq.1, bq.2] (some ⟨ab, 0, none⟩) 2 [(ab, C (fl tc [(bq.1 : Int), (bq.2 : Int)] ++ []) 30)] (.inr ⟨ab, 2, [], rfl, rfl, rfl, Nat.le_refl _, rfl⟩) (fun z hz => by rw [List.mem_singleton] at hz; subst hz; exact ⟨fresh_ne hh (hpre _ _ hab) (Find.mem (by repeat (first | exact find_head | apply find_tail))), fresh_ne hh (hpre _ _ hab) (Find.mem (by repeat (first | exact find_head | apply find_tail)))⟩) rfl rfl (fun v hv => by simp at hv; rcases hv with rfl | rfl <;> omega) (by omega) (by simp) ⟨hok.nx.1, by have := hok.nx.2; omega⟩) (by repeat (first | exact keeps_nil | apply keeps_cons (by repeat (first | exact find_head | apply find_tail)) (by first  | rfl) | exact keeps_self | exact keeps_left | exact keeps_right | exact keeps_swap | apply keeps_mv)) (fun b o m => by rw [List.mem_singleton] at m; cases m; rw [List.append_nil]; exact heap_keep hh (hpre _ _ hab)) ?_)
            clear hl hh a w; intro vc Fc a w hR hl hh
            obtain ⟨Eo, hRo, hlen6, rfl⟩ := hR
            try simp only [List.cons_append, List.nil_append] at hh
            replace hh := has_drop2 hh
            refine d_step (fun h => absurd h (by decide)) ?_
            refine d_done (by kernel_rfl) ?_
            try clear hM
            have hl2 := hl.add (t := 0) (hl.add (t := 1) (hl.add (t := 2) (hl.add (t := 7) (hl.add (t := 13) (hl.add (t := 17) (hl.add (t := 18) (hl.add (t := 19) (hl.nil) rfl) rfl) rfl) rfl) rfl) rfl) rfl) rfl; clear hl; have hl := hl2; clear hl2
            refine then_normal ?_
            refine c_region ?_
            refine wl (wl_val hl rfl trivial (r_move hl rfl) ?_)
            clear hl a; intro a hl
            first | refine wl (w_loadA hl hh rfl trivial agg47 rfl (by repeat (first | exact find_head | apply find_tail)) (by first | (simp only [List.getElem?_cons_zero, List.getElem?_cons_succ, Value.cells, List.take_zero, List.take_succ_cons, List.take_nil, List.drop_zero, List.drop_succ_cons, List.drop_nil, List.length_cons, List.length_nil, List.cons_append, List.nil_append, List.append_nil, Nat.zero_add, Nat.add_zero, Nat.reduceAdd, Nat.reduceBEq, Nat.reduceEqDiff, Nat.ble, BEq.rfl, Bool.and_true, Bool.and_self, cond_true, beq_self_eq_true]; rfl)) (by first | rfl | (simp; done)) ?_) | refine wl (w_loadRA hl hh rfl trivial agg47 rfl hmp (by simp) hq9 rfl ?_)
            clear hl a; intro a hl
            refine wl (w_buildSlice hl hh rfl trivial app50 zero47 rfl rfl rfl rfl rfl (by simp only [fillL, arrPl, List.range_succ, List.range_zero, List.map_cons, List.map_nil, List.map_append, List.nil_append, List.replicate_succ, List.replicate_zero, List.flatten_cons, List.flatten_nil, Nat.zero_mul, Nat.mul_one, Nat.one_mul, Nat.reduceMul, setL, List.getElem?_cons_zero, List.getElem?_cons_succ, Value.cells, List.take_zero, List.take_succ_cons, List.take_nil, List.drop_zero, List.drop_succ_cons, List.drop_nil, List.length_cons, List.length_nil, List.cons_append, List.nil_append, List.append_nil, Nat.zero_add, Nat.add_zero, Nat.reduceAdd, Nat.reduceBEq, Nat.reduceEqDiff, Nat.ble, BEq.rfl, Bool.and_true, Bool.and_self, cond_true, beq_self_eq_true]; rfl) ?_)
            clear hl hh a w; intro k91 a w hl hh
            refine wl (w_append (news := [.int .u64 (bitsOf .or .u64 st.pl (sh64 pk.2)), .slice (some ⟨gb, 0, none⟩) st.num.length gc, .int .i64 (rdP st.num st.nx [bq.1, bq.2]).2.1]) hl hh rfl trivial app50 rfl rfl rfl hrow (by repeat (first | exact keeps_left | apply keeps_mv)) (hh.mem _ _ (Find.mem (by repeat (first | exact find_head | apply find_tail)))) rfl rfl rfl (by omega) (by omega) (by omega) (by decide) ?_)
            clear hl hh a w; intro rv2 E2 a w hR2 hl hh
            have hh3 := hh.comm; clear hh; have hh := hh3; clear hh3
            simp only [List.cons_append, List.nil_append] at hh
            refine wl (wl_val hl rfl trivial (r_assign hl rfl) ?_)
            clear hl a; intro a hl
            refine w_nil ?_
            have hl2 := hl.add (t := 0) (hl.add (t := 1) (hl.add (t := 2) (hl.add (t := 7) (hl.add (t := 17) (hl.add (t := 18) (hl.add (t := 19) (hl.nil) rfl) rfl) rfl) rfl) rfl) rfl) rfl; clear hl; have hl := hl2; clear hl2
            refine blk_normal ?_
            refine then_normal ?_
            refine c_region ?_
            first | refine wl (wl_val hl rfl trivial (r_add hl rfl rfl (by simp only [Fits]; omega)) ?_) | refine wl (wl_val hl rfl trivial (r_addW hl rfl rfl) ?_)
            clear hl a; intro a hl
            refine wl (wl_val hl rfl trivial (r_move hl rfl) ?_)
            clear hl a; intro a hl
            refine w_nil ?_
            have hl2 := hl.add (t := 0) (hl.add (t := 1) (hl.add (t := 2) (hl.add (t := 7) (hl.add (t := 17) (hl.add (t := 18) (hl.add (t := 19) (hl.nil) rfl) rfl) rfl) rfl) rfl) rfl) rfl; clear hl; have hl := hl2; clear hl2
            refine then_normal ?_
            try replace hh := has_fix hh
            first | refine ⟨⟨k + 1, nbs ++ [⟨bitsOf .or .u64 st.pl (sh64 pk.2), (rdP st.num st.nx [bq.1, bq.2]).1, (rdP st.num st.nx [bq.1, bq.2]).2.1, gb, gc, gj⟩], rv2, E2, Es ++ [(gb, C (fl iI (rdP st.num st.nx [bq.1, bq.2]).1 ++ gj) 3)]⟩, (by simp only; omega), ⟨by simp only; omega, (by show List.map SB.core (nbs ++ [_]) = _; rw [List.map_append, hco, followP_no hpk hcore hbq (by rw [htw]; assumption)]; rfl), (by show (nbs ++ [_]).length ≤ k + 1; rw [List.length_append]; simp only [List.length_singleton]; omega), new_row hlen6 rfl hR2, (fun b hb => by rcases List.mem_append.1 hb with h | h; exact List.mem_append_left _ (hblk b h); (rw [List.mem_singleton] at h; subst h; exact List.mem_append_right _ (List.mem_singleton.2 rfl))), (fun b hb => by rcases List.mem_append.1 hb with h | h; exact hokn b h; (rw [List.mem_singleton] at h; subst h; exact (new_ok hok bq _ gb gc gj (hJ.rd st (List.mem_of_getElem? hst)) hr).1)), ⟨(fun b hb => by rcases List.mem_append.1 hb with h | h; exact hfj.rd b h; (rw [List.mem_singleton] at h; subst h; exact (new_ok hok bq 0 gb gc gj (hJ.rd st (List.mem_of_getElem? hst)) hr).2)), (fun b hb => by rcases List.mem_append.1 hb with h | h; exact hfj.cp b h; (rw [List.mem_singleton] at h; subst h; exact ⟨by rw [← hgl, List.length_append, List.length_append, fl_len iI_len, fl_len iI_len]; show (rdP st.num st.nx [bq.1, bq.2]).1.length * 1 + _ = _; rw [hlen6], by show (rdP st.num st.nx [bq.1, bq.2]).1.length ≤ gc; rw [hlen6]; exact hgc⟩))⟩⟩, hl.addE (t := 19) (hl.addE (t := 7) (hl.addE (t := 0) (hl.addE (t := 1) (hl.addE (t := 2) (hl.addE (t := 17) (hl.addE (t := 18) (hl.nil) rfl (by first | rfl | rfl)) rfl (by first | rfl | rfl)) rfl (by first | rfl | rfl)) rfl (by first | rfl | rfl)) rfl (by first | rfl | rfl)) rfl (by first | rfl | rfl)) rfl (by first | rfl | rfl), hh.keep (by repeat (first | exact keeps_nil | apply keeps_cons (by repeat (first | exact find_head | apply find_tail)) (by first  | rfl) | exact keeps_self | exact keeps_left | exact keeps_right | exact keeps_swap | apply keeps_mv))⟩ | refine ⟨⟨k + 1, nbs, nv, En, Es⟩, (by simp only; omega), ⟨by simp only; omega, hco.trans (followP_yes hpk hcore hbq (by rw [htw]; assumption)).symm, by simp only; omega, hrow, hblk, hokn, hfj⟩, hl.addE (t := 19) (hl.addE (t := 7) (hl.addE (t := 0) (hl.addE (t := 1) (hl.addE (t := 2) (hl.addE (t := 17) (hl.addE (t := 18) (hl.nil) rfl (by first | rfl | rfl)) rfl (by first | rfl | rfl)) rfl (by first | rfl | rfl)) rfl (by first | rfl | rfl)) rfl (by first | rfl | rfl)) rfl (by first | rfl | rfl)) rfl (by first | rfl | rfl), hh.keep (by repeat (first | exact keeps_nil | apply keeps_cons (by repeat (first | exact find_head | apply find_tail)) (by first  | rfl) | exact keeps_self | exact keeps_left | exact keeps_right | exact keeps_swap | apply keeps_mv))⟩
    · intro hg1; clear hl; intro hl
      try simp only [decide_eq_true_eq, decide_eq_false_iff_not, Bool.not_eq_true', Bool.not_eq_false', Bool.not_eq_true, Bool.not_eq_false, Bool.and_eq_true, Bool.or_eq_true, Bool.and_eq_false_iff, Bool.or_eq_false_iff, Bool.not_not, ne_eq, Int.not_lt, Int.not_le, Decidable.not_not, beq_iff_eq, bne_iff_ne] at hg1
      refine d_skip (i := 3) hl rfl (by kernel_rfl) (by kernel_rfl) (by kernel_rfl) (by kernel_rfl) (by kernel_rfl) rfl ⟨_, _, rfl, rfl, rfl⟩ (fun _ _ _ h => h) hM ?_
      clear hl a; intro a hl
      refine d_skip (i := 4) hl rfl (by kernel_rfl) (by kernel_rfl) (by kernel_rfl) (by kernel_rfl) (by kernel_rfl) rfl ⟨_, _, rfl, rfl, rfl⟩ (fun _ _ _ h => h) hM ?_
      clear hl a; intro a hl
      refine d_skip (i := 5) hl rfl (by kernel_rfl) (by kernel_rfl) (by kernel_rfl) (by kernel_rfl) (by kernel_rfl) rfl ⟨_, _, rfl, rfl, rfl⟩ (fun _ _ _ h => h) hM ?_
      clear hl a; intro a hl
      refine d_skip (i := 6) hl rfl (by kernel_rfl) (by kernel_rfl) (by kernel_rfl) (by kernel_rfl) (by kernel_rfl) rfl ⟨_, _, rfl, rfl, rfl⟩ (fun _ _ _ h => h) hM ?_
      clear hl a; intro a hl
      refine d_skip (i := 7) hl rfl (by kernel_rfl) (by kernel_rfl) (by kernel_rfl) (by kernel_rfl) (by kernel_rfl) rfl ⟨_, _, rfl, rfl, rfl⟩ (fun _ _ _ h => h) hM ?_
      clear hl a; intro a hl
      refine d_skip (i := 8) hl rfl (by kernel_rfl) (by kernel_rfl) (by kernel_rfl) (by kernel_rfl) (by kernel_rfl) rfl ⟨_, _, rfl, rfl, rfl⟩ (fun _ _ _ h => h) hM ?_
      clear hl a; intro a hl
      refine d_skip (i := 9) hl rfl (by kernel_rfl) (by kernel_rfl) (by kernel_rfl) (by kernel_rfl) (by kernel_rfl) rfl ⟨_, _, rfl, rfl, rfl⟩ (fun _ _ _ h => h) hM ?_
      clear hl a; intro a hl
      refine d_skip (i := 10) hl rfl (by kernel_rfl) (by kernel_rfl) (by kernel_rfl) (by kernel_rfl) (by kernel_rfl) rfl ⟨_, _, rfl, rfl, rfl⟩ (fun _ _ _ h => h) hM ?_
      clear hl a; intro a hl
      refine d_takeL (i := 11) hl rfl (by kernel_rfl) (by kernel_rfl) (by kernel_rfl) (by kernel_rfl) (by kernel_rfl) rfl trivial (fun _ _ _ h => h) (fun w => r_pickF hl rfl rfl) rfl ?_
      clear hl a; intro a hl
      refine d_takeL (i := 12) hl rfl (by kernel_rfl) (by kernel_rfl) (by kernel_rfl) (by kernel_rfl) (by kernel_rfl) rfl trivial (fun _ _ _ h => h) (fun w => r_move hl rfl) rfl ?_
      clear hl a; intro a hl
      refine d_skip (i := 13) hl rfl (by kernel_rfl) (by kernel_rfl) (by kernel_rfl) (by kernel_rfl) (by kernel_rfl) rfl ⟨_, _, rfl, rfl, rfl⟩ (fun _ _ _ h => h) hM ?_
      clear hl a; intro a hl
      refine d_skip (i := 14) hl rfl (by kernel_rfl) (by kernel_rfl) (by kernel_rfl) (by kernel_rfl) (by kernel_rfl) rfl ⟨_, _, rfl, rfl, rfl⟩ (fun _ _ _ h => h) hM ?_
      clear hl a; intro a hl
      refine d_takeL (i := 15) hl rfl (by kernel_rfl) (by kernel_rfl) (by kernel_rfl) (by kernel_rfl) (by kernel_rfl) rfl trivial (fun _ _ _ h => h) (fun w => r_pickF hl rfl rfl) rfl ?_
      clear hl a; intro a hl
      refine d_done (by kernel_rfl) ?_
      try clear hM
      have hl2 := hl.add (t := 0) (hl.add (t := 1) (hl.add (t := 2) (hl.add (t := 7) (hl.add (t := 9) (hl.add (t := 10) (hl.add (t := 11) (hl.add (t := 12) (hl.add (t := 17) (hl.add (t := 18) (hl.add (t := 19) (hl.add (t := 45) (hl.nil) rfl) rfl) rfl) rfl) rfl) rfl) rfl) rfl) rfl) rfl) rfl) rfl; clear hl; have hl := hl2; clear hl2
      refine then_normal ?_
      refine c_condF hl rfl ?_
      have htw := tw_fin ht1 ht2 (by first | exact .inl (by assumption) | exact .inr (.inl (by omega)) | exact .inr (.inr ⟨j, pr, rfl, hpr, by omega⟩))
      refine wp_exit ?_
      refine then_exit ?_
      refine then_exit ?_
      refine blk_exit ?_
      refine then_normal ?_
      refine c_seq ?_
      refine c_seq ?_
      refine c_region ?_
      refine wl (wl_val hl rfl trivial (r_move hl rfl) ?_)
      clear hl a; intro a hl
      refine w_nil ?_
      have hl2 := hl.add (t := 0) (hl.add (t := 1) (hl.add (t := 2) (hl.add (t := 7) (hl.add (t := 9) (hl.add (t := 10) (hl.add (t := 17) (hl.add (t := 18) (hl.add (t := 19) (hl.add (t := 58) (hl.nil) rfl) rfl) rfl) rfl) rfl) rfl) rfl) rfl) rfl) rfl; clear hl; have hl := hl2; clear hl2
      refine then_normal ?_
      refine c_cond hl rfl ?_ ?_
      · intro hc2
        try simp only [decide_eq_true_eq, decide_eq_false_iff_not, Bool.not_eq_true', Bool.not_eq_false', Bool.not_eq_true, Bool.not_eq_false, Bool.and_eq_true, Bool.or_eq_true, Bool.and_eq_false_iff, Bool.or_eq_false_iff, Bool.not_not, ne_eq, Int.not_lt, Int.not_le, Decidable.not_not, beq_iff_eq, bne_iff_ne] at hc2
        refine wp_exit ?_
        refine then_exit ?_
        refine blk_exit ?_
        refine then_normal ?_
        refine c_region ?_
        first | refine wl (wl_val hl rfl trivial (r_add hl rfl rfl (by simp only [Fits]; omega)) ?_) | refine wl (wl_val hl rfl trivial (r_addW hl rfl rfl) ?_)
        clear hl a; intro a hl
        refine wl (wl_val hl rfl trivial (r_move hl rfl) ?_)
        clear hl a; intro a hl
        refine w_nil ?_
        have hl2 := hl.add (t := 0) (hl.add (t := 1) (hl.add (t := 2) (hl.add (t := 7) (hl.add (t := 17) (hl.add (t := 18) (hl.add (t := 19) (hl.nil) rfl) rfl) rfl) rfl) rfl) rfl) rfl; clear hl; have hl := hl2; clear hl2
        refine then_normal ?_
        try replace hh := has_fix hh
        first | refine ⟨⟨k + 1, nbs ++ [⟨bitsOf .or .u64 st.pl (sh64 pk.2), (rdP st.num st.nx [bq.1, bq.2]).1, (rdP st.num st.nx [bq.1, bq.2]).2.1, gb, gc, gj⟩], rv2, E2, Es ++ [(gb, C (fl iI (rdP st.num st.nx [bq.1, bq.2]).1 ++ gj) 3)]⟩, (by simp only; omega), ⟨by simp only; omega, (by show List.map SB.core (nbs ++ [_]) = _; rw [List.map_append, hco, followP_no hpk hcore hbq (by rw [htw]; assumption)]; rfl), (by show (nbs ++ [_]).length ≤ k + 1; rw [List.length_append]; simp only [List.length_singleton]; omega), new_row hlen6 rfl hR2, (fun b hb => by rcases List.mem_append.1 hb with h | h; exact List.mem_append_left _ (hblk b h); (rw [List.mem_singleton] at h; subst h; exact List.mem_append_right _ (List.mem_singleton.2 rfl))), (fun b hb => by rcases List.mem_append.1 hb with h | h; exact hokn b h; (rw [List.mem_singleton] at h; subst h; exact (new_ok hok bq _ gb gc gj (hJ.rd st (List.mem_of_getElem? hst)) hr).1)), ⟨(fun b hb => by rcases List.mem_append.1 hb with h | h; exact hfj.rd b h; (rw [List.mem_singleton] at h; subst h; exact (new_ok hok bq 0 gb gc gj (hJ.rd st (List.mem_of_getElem? hst)) hr).2)), (fun b hb => by rcases List.mem_append.1 hb with h | h; exact hfj.cp b h; (rw [List.mem_singleton] at h; subst h; exact ⟨by rw [← hgl, List.length_append, List.length_append, fl_len iI_len, fl_len iI_len]; show (rdP st.num st.nx [bq.1, bq.2]).1.length * 1 + _ = _; rw [hlen6], by show (rdP st.num st.nx [bq.1, bq.2]).1.length ≤ gc; rw [hlen6]; exact hgc⟩))⟩⟩, hl.addE (t := 19) (hl.addE (t := 7) (hl.addE (t := 0) (hl.addE (t := 1) (hl.addE (t := 2) (hl.addE (t := 17) (hl.addE (t := 18) (hl.nil) rfl (by first | rfl | rfl)) rfl (by first | rfl | rfl)) rfl (by first | rfl | rfl)) rfl (by first | rfl | rfl)) rfl (by first | rfl | rfl)) rfl (by first | rfl | rfl)) rfl (by first | rfl | rfl), hh.keep (by repeat (first | exact keeps_nil | apply keeps_cons (by repeat (first | exact find_head | apply find_tail)) (by first  | rfl) | exact keeps_self | exact keeps_left | exact keeps_right | exact keeps_swap | apply keeps_mv))⟩ | refine ⟨⟨k + 1, nbs, nv, En, Es⟩, (by simp only; omega), ⟨by simp only; omega, hco.trans (followP_yes hpk hcore hbq (by rw [htw]; assumption)).symm, by simp only; omega, hrow, hblk, hokn, hfj⟩, hl.addE (t := 19) (hl.addE (t := 7) (hl.addE (t := 0) (hl.addE (t := 1) (hl.addE (t := 2) (hl.addE (t := 17) (hl.addE (t := 18) (hl.nil) rfl (by first | rfl | rfl)) rfl (by first | rfl | rfl)) rfl (by first | rfl | rfl)) rfl (by first | rfl | rfl)) rfl (by first | rfl | rfl)) rfl (by first | rfl | rfl)) rfl (by first | rfl | rfl), hh.keep (by repeat (first | exact keeps_nil | apply keeps_cons (by repeat (first | exact find_head | apply find_tail)) (by first  | rfl) | exact keeps_self | exact keeps_left | exact keeps_right | exact keeps_swap | apply keeps_mv))⟩
      · intro hc2
        try simp only [decide_eq_true_eq, decide_eq_false_iff_not, Bool.not_eq_true', Bool.not_eq_false', Bool.not_eq_true, Bool.not_eq_false, Bool.and_eq_true, Bool.or_eq_true, Bool.and_eq_false_iff, Bool.or_eq_false_iff, Bool.not_not, ne_eq, Int.not_lt, Int.not_le, Decidable.not_not, beq_iff_eq, bne_iff_ne] at hc2
        refine wp_skip ?_
        refine then_normal ?_
        refine c_seq ?_
        refine c_draw [(fb, C (fl SB.cells bs ++ jf) 47), (k9, C [.int .i64 (pk.1 : Int), .int .i64 (pk.2 : Int)] 61)] [20] mixed hh ?_
        clear hh w; intro w hh
        have hM : Mem [(fb, C (fl SB.cells bs ++ jf) 47), (k9, C [.int .i64 (pk.1 : Int), .int .i64 (pk.2 : Int)] 61)] w := (by repeat (first | exact Mem.nil | refine Mem.consR hh (by assumption) (by simp) ?_ | refine Mem.cons hh.mem (by repeat (first | exact find_head | apply find_tail)) ?_))
        refine d_take (i := 0) hl rfl (by kernel_rfl) (by kernel_rfl) (by kernel_rfl) (by kernel_rfl) (by kernel_rfl) rfl trivial (fun _ _ _ h => h) hM (fun w hC => r_move hl rfl) rfl ?_
        clear hl a; intro a hl
        refine d_take (i := 1) hl rfl (by kernel_rfl) (by kernel_rfl) (by kernel_rfl) (by kernel_rfl) (by kernel_rfl) rfl trivial (fun _ _ _ h => h) hM (fun w hC => r_nilCheck hl rfl) rfl ?_
        clear hl a; intro a hl
        refine d_take (i := 2) hl rfl (by kernel_rfl) (by kernel_rfl) (by kernel_rfl) (by kernel_rfl) (by kernel_rfl) rfl trivial (fun _ _ _ h => h) hM (fun w hC => r_field hl rfl fld47_0) rfl ?_
        clear hl a; intro a hl
        refine d_take (i := 3) hl rfl (by kernel_rfl) (by kernel_rfl) (by kernel_rfl) (by kernel_rfl) (by kernel_rfl) rfl trivial (fun _ _ _ h => h) hM (fun w hC => r_loadC hl rfl one45 hC (by repeat (first | exact find_head | apply find_tail)) (by exact hS.h0)) rfl ?_
        clear hl a; intro a hl
        refine d_take (i := 4) hl rfl (by kernel_rfl) (by kernel_rfl) (by kernel_rfl) (by kernel_rfl) (by kernel_rfl) rfl trivial (fun _ _ _ h => h) hM (fun w hC => r_field hl rfl fld61_1) rfl ?_
        clear hl a; intro a hl
        refine d_take (i := 5) hl rfl (by kernel_rfl) (by kernel_rfl) (by kernel_rfl) (by kernel_rfl) (by kernel_rfl) rfl trivial (fun _ _ _ h => h) hM (fun w hC => r_loadC hl rfl one3 hC (by repeat (first | exact find_head | apply find_tail)) (by first | rfl)) rfl ?_
        clear hl a; intro a hl
        first | refine d_take (i := 6) hl rfl (by kernel_rfl) (by kernel_rfl) (by kernel_rfl) (by kernel_rfl) (by kernel_rfl) rfl trivial (fun _ _ _ h => h) hM (fun w hC => r_conv hl rfl Try.underlying3 Try.underlying58 (by simp only [Fits]; omega)) rfl ?_ | refine d_take (i := 6) hl rfl (by kernel_rfl) (by kernel_rfl) (by kernel_rfl) (by kernel_rfl) (by kernel_rfl) rfl trivial (fun _ _ _ h => h) hM (fun w hC => r_convW hl rfl Try.underlying3 Try.underlying58) rfl ?_
        clear hl a; intro a hl
        refine d_take (i := 7) hl rfl (by kernel_rfl) (by kernel_rfl) (by kernel_rfl) (by kernel_rfl) (by kernel_rfl) rfl trivial (fun _ _ _ h => h) hM (fun w hC => r_shl hl rfl rfl (by omega)) rfl ?_
        clear hl a; intro a hl
        rw [sh64_eq] at hl
        refine d_take (i := 8) hl rfl (by kernel_rfl) (by kernel_rfl) (by kernel_rfl) (by kernel_rfl) (by kernel_rfl) rfl trivial (fun _ _ _ h => h) hM (fun w hC => r_or hl rfl rfl) rfl ?_
        clear hl a; intro a hl
        refine d_take (i := 9) hl rfl (by kernel_rfl) (by kernel_rfl) (by kernel_rfl) (by kernel_rfl) (by kernel_rfl) rfl trivial (fun _ _ _ h => h) hM (fun w hC => r_move hl rfl) rfl ?_
        clear hl a; intro a hl
        refine d_take (i := 10) hl rfl (by kernel_rfl) (by kernel_rfl) (by kernel_rfl) (by kernel_rfl) (by kernel_rfl) rfl trivial (fun _ _ _ h => h) hM (fun w hC => r_nilCheck hl rfl) rfl ?_
        clear hl a; intro a hl
        refine d_take (i := 11) hl rfl (by kernel_rfl) (by kernel_rfl) (by kernel_rfl) (by kernel_rfl) (by kernel_rfl) rfl trivial (fun _ _ _ h => h) hM (fun w hC => r_field hl rfl fld47_1) rfl ?_
        clear hl a; intro a hl
        refine d_take (i := 12) hl rfl (by kernel_rfl) (by kernel_rfl) (by kernel_rfl) (by kernel_rfl) (by kernel_rfl) rfl trivial (fun _ _ _ h => h) hM (fun w hC => r_loadC hl rfl one41 hC (by repeat (first | exact find_head | apply find_tail)) (by exact hS.h1)) rfl ?_
        clear hl a; intro a hl
        refine d_take (i := 14) hl rfl (by kernel_rfl) (by kernel_rfl) (by kernel_rfl) (by kernel_rfl) (by kernel_rfl) rfl trivial (fun _ _ _ h => h) hM (fun w hC => r_move hl rfl) rfl ?_
        clear hl a; intro a hl
        refine d_take (i := 15) hl rfl (by kernel_rfl) (by kernel_rfl) (by kernel_rfl) (by kernel_rfl) (by kernel_rfl) rfl trivial (fun _ _ _ h => h) hM (fun w hC => r_nilCheck hl rfl) rfl ?_
        clear hl a; intro a hl
        refine d_take (i := 16) hl rfl (by kernel_rfl) (by kernel_rfl) (by kernel_rfl) (by kernel_rfl) (by kernel_rfl) rfl trivial (fun _ _ _ h => h) hM (fun w hC => r_field hl rfl fld47_2) rfl ?_
        clear hl a; intro a hl
        refine d_take (i := 17) hl rfl (by kernel_rfl) (by kernel_rfl) (by kernel_rfl) (by kernel_rfl) (by kernel_rfl) rfl trivial (fun _ _ _ h => h) hM (fun w hC => r_loadC hl rfl one3 hC (by repeat (first | exact find_head | apply find_tail)) (by exact hS.h2)) rfl ?_
        clear hl a; intro a hl
        refine d_two (i := 13) (j := 19) (by kernel_rfl) rfl rfl ?_ ?_
        ·
          try clear hM
          refine id (w_appendCopy hl hh rfl trivial app41 rfl rfl rfl hrs (fun b o m => by rw [List.mem_singleton] at m; cases m; exact heap_keep hh (hpre _ _ hS.nb)) (fl_all iI_one _) (by omega) (by omega) (by decide) ?_)
          clear hl hh a w; intro rv3 E3 a w hR3 hl hh
          have hh3 := hh.comm; clear hh; have hh := hh3; clear hh3
          simp only [List.cons_append, List.nil_append] at hh
          obtain ⟨gb, gc, gj, hgv, hgl, hgc, hgE⟩ := row_blk3 hR3 (by omega)
          subst hgv
          subst hgE
          first | replace hh := has_rot (A := [_]) hh | replace hh := has_rot (A := [_, _]) hh
          simp only [List.cons_append, List.nil_append] at hh
          have hM : Mem [(fb, C (fl SB.cells bs ++ jf) 47), (k9, C [.int .i64 (pk.1 : Int), .int .i64 (pk.2 : Int)] 61)] w := (by repeat (first | exact Mem.nil | refine Mem.consR hh (by assumption) (by simp) ?_ | refine Mem.cons hh.mem (by repeat (first | exact find_head | apply find_tail)) ?_))
          refine d_step (fun _ => hM) ?_
          refine d_take (i := 18) hl rfl (by kernel_rfl) (by kernel_rfl) (by kernel_rfl) (by kernel_rfl) (by kernel_rfl) rfl trivial (fun _ _ _ h => h) hM (fun w hC => r_build hl rfl zero47 bld47 (by simp only [fillL, setL, List.getElem?_cons_zero, List.getElem?_cons_succ, Value.cells, List.take_zero, List.take_succ_cons, List.take_nil, List.drop_zero, List.drop_succ_cons, List.drop_nil, List.length_cons, List.length_nil, List.cons_append, List.nil_append, List.append_nil, Nat.zero_add, Nat.add_zero, Nat.reduceAdd, Nat.reduceBEq, Nat.reduceEqDiff, Nat.ble, BEq.rfl, Bool.and_true, Bool.and_self, cond_true, beq_self_eq_true]; rfl)) rfl ?_
          clear hl a; intro a hl
          refine d_one (i := 19) (by kernel_rfl) rfl ?_
          try clear hM
          refine id (w_alloc hl hh rfl trivial zero47 rfl ?_)
          clear hl hh a w; intro k13 a w hl hh
          have hM : Mem [(fb, C (fl SB.cells bs ++ jf) 47), (k9, C [.int .i64 (pk.1 : Int), .int .i64 (pk.2 : Int)] 61)] w := (by repeat (first | exact Mem.nil | refine Mem.consR hh (by assumption) (by simp) ?_ | refine Mem.cons hh.mem (by repeat (first | exact find_head | apply find_tail)) ?_))
          refine d_step (fun _ => hM) ?_
          refine d_one (i := 20) (by kernel_rfl) rfl ?_
          try clear hM
          refine id (w_storeA hl hh trivial agg47 rfl rfl (by repeat (first | exact find_head | apply find_tail)) (by first | rfl | (simp; done)) (by first | (simp; done) | (simp; omega)) (by first | rfl | (simp; done)) (by first | (simp only [setL, List.getElem?_cons_zero, List.getElem?_cons_succ, Value.cells, List.take_zero, List.take_succ_cons, List.take_nil, List.drop_zero, List.drop_succ_cons, List.drop_nil, List.length_cons, List.length_nil, List.cons_append, List.nil_append, List.append_nil, Nat.zero_add, Nat.add_zero, Nat.reduceAdd, Nat.reduceBEq, Nat.reduceEqDiff, Nat.ble, BEq.rfl, Bool.and_true, Bool.and_self, cond_true, beq_self_eq_true]; rfl)) ?_)
          clear hh w; intro w hh
          refine d_step (fun h => absurd h (by decide)) ?_
          refine d_done (by kernel_rfl) ?_
          try clear hM
          have hl2 := hl.add (t := 0) (hl.add (t := 1) (hl.add (t := 2) (hl.add (t := 7) (hl.add (t := 9) (hl.add (t := 13) (hl.add (t := 17) (hl.add (t := 18) (hl.add (t := 19) (hl.nil) rfl) rfl) rfl) rfl) rfl) rfl) rfl) rfl) rfl; clear hl; have hl := hl2; clear hl2
          refine then_normal ?_
          refine c_seq ?_
          refine c_draw [(X.sb, C [.string X.hs, X.hv, .slice (some ⟨X.bb, 0, none⟩) X.n X.n, .int .i64 (X.vs : Int), .slice (some ⟨X.ob, 0, none⟩) X.vs X.vs] 44), (X.bb, C (fl lc X.ab) 34), (k9, C [.int .i64 (pk.1 : Int), .int .i64 (pk.2 : Int)] 61)] [10] mixed hh ?_
          clear hh w; intro w hh
          have hM : Mem [(X.sb, C [.string X.hs, X.hv, .slice (some ⟨X.bb, 0, none⟩) X.n X.n, .int .i64 (X.vs : Int), .slice (some ⟨X.ob, 0, none⟩) X.vs X.vs] 44), (X.bb, C (fl lc X.ab) 34), (k9, C [.int .i64 (pk.1 : Int), .int .i64 (pk.2 : Int)] 61)] w := (by repeat (first | exact Mem.nil | refine Mem.consR hh (by assumption) (by simp) ?_ | refine Mem.cons hh.mem (by repeat (first | exact find_head | apply find_tail)) ?_))
          refine d_take (i := 0) hl rfl (by kernel_rfl) (by kernel_rfl) (by kernel_rfl) (by kernel_rfl) (by kernel_rfl) rfl trivial (fun _ _ _ h => h) hM (fun w hC => r_move hl rfl) rfl ?_
          clear hl a; intro a hl
          refine d_take (i := 1) hl rfl (by kernel_rfl) (by kernel_rfl) (by kernel_rfl) (by kernel_rfl) (by kernel_rfl) rfl trivial (fun _ _ _ h => h) hM (fun w hC => r_nilCheck hl rfl) rfl ?_
          clear hl a; intro a hl
          refine d_take (i := 2) hl rfl (by kernel_rfl) (by kernel_rfl) (by kernel_rfl) (by kernel_rfl) (by kernel_rfl) rfl trivial (fun _ _ _ h => h) hM (fun w hC => r_field hl rfl fld44_1) rfl ?_
          clear hl a; intro a hl
          refine d_take (i := 3) hl rfl (by kernel_rfl) (by kernel_rfl) (by kernel_rfl) (by kernel_rfl) (by kernel_rfl) rfl trivial (fun _ _ _ h => h) hM (fun w hC => r_loadC hl rfl one25 hC (by repeat (first | exact find_head | apply find_tail)) (by rfl)) rfl ?_
          clear hl a; intro a hl
          refine d_take (i := 4) hl rfl (by kernel_rfl) (by kernel_rfl) (by kernel_rfl) (by kernel_rfl) (by kernel_rfl) rfl trivial (fun _ _ _ h => h) hM (fun w hC => r_field hl rfl fld61_1) rfl ?_
          clear hl a; intro a hl
          refine d_take (i := 5) hl rfl (by kernel_rfl) (by kernel_rfl) (by kernel_rfl) (by kernel_rfl) (by kernel_rfl) rfl trivial (fun _ _ _ h => h) hM (fun w hC => r_loadC hl rfl one3 hC (by repeat (first | exact find_head | apply find_tail)) (by first | rfl)) rfl ?_
          clear hl a; intro a hl
          refine d_take (i := 6) hl rfl (by kernel_rfl) (by kernel_rfl) (by kernel_rfl) (by kernel_rfl) (by kernel_rfl) rfl trivial (fun _ _ _ h => h) hM (fun w hC => r_indexS hl rfl rfl slc25 (by omega) (by omega) (by first | (simp only [Int.reduceToNat]; rfl) | exact toNat_add1 _ | exact toNat_add2 _ _ | exact toNat_emod _ _ | exact Int.toNat_natCast _ | rfl)) rfl ?_
          clear hl a; intro a hl
          refine d_take (i := 7) hl rfl (by kernel_rfl) (by kernel_rfl) (by kernel_rfl) (by kernel_rfl) (by kernel_rfl) rfl trivial (fun _ _ _ h => h) hM (fun w hC => r_field hl rfl fld34_2) rfl ?_
          clear hl a; intro a hl
          refine d_take (i := 8) hl rfl (by kernel_rfl) (by kernel_rfl) (by kernel_rfl) (by kernel_rfl) (by kernel_rfl) rfl trivial (fun _ _ _ h => h) hM (fun w hC => r_field hl rfl fld24_1) rfl ?_
          clear hl a; intro a hl
          refine d_take (i := 9) hl rfl (by kernel_rfl) (by kernel_rfl) (by kernel_rfl) (by kernel_rfl) (by kernel_rfl) rfl trivial (fun _ _ _ h => h) hM (fun w hC => r_loadC hl rfl one22 hC (by repeat (first | exact find_head | apply find_tail)) (by exact lc_args hab0)) rfl ?_
          clear hl a; intro a hl
          refine d_one (i := 10) (by kernel_rfl) rfl ?_
          try clear hM
          refine id (w_call hl hh rfl trivial rfl cal6 rfl (read_keep k13 0 gb gc [.int .u64 (bitsOf .or .u64 st.pl (sh64 pk.2)), .slice (some ⟨gb, 0, none⟩) st.num.length gc, .int .i64 st.nx] 47 st.num gj st.nx [bq.1, bq.2] (some ⟨ab, 0, none⟩) 2 [(ab, C (fl tc [(bq.1 : Int), (bq.2 : Int)] ++ []) 30)] (.inr ⟨ab, 2, [], rfl, rfl, rfl, Nat.le_refl _, rfl⟩) (fun z hz => by rw [List.mem_singleton] at hz; subst hz; exact ⟨fresh_ne hh (hpre _ _ hab) (Find.mem (by repeat (first | exact find_head | apply find_tail))), fresh_ne hh (hpre _ _ hab) (Find.mem (by repeat (first | exact find_head | apply find_tail)))⟩) rfl rfl (fun v hv => by simp at hv; rcases hv with rfl | rfl <;> omega) (by omega) (by simp) ⟨hok.nx.1, by have := hok.nx.2; omega⟩) (by repeat (first | exact keeps_nil | apply keeps_cons (by repeat (first | exact find_head | apply find_tail)) (by first  | rfl) | exact keeps_self | exact keeps_left | exact keeps_right | exact keeps_swap | apply keeps_mv)) (fun b o m => by rw [List.mem_singleton] at m; cases m; rw [List.append_nil]; exact heap_keep hh (hpre _ _ hab)) ?_)
          clear hl hh a w; intro vc Fc a w hR hl hh
          obtain ⟨Eo, hRo, hlen6, rfl⟩ := hR
          try simp only [List.cons_append, List.nil_append] at hh
          replace hh := has_drop2 hh
          refine d_step (fun h => absurd h (by decide)) ?_
          refine d_done (by kernel_rfl) ?_
          try clear hM
          have hl2 := hl.add (t := 0) (hl.add (t := 1) (hl.add (t := 2) (hl.add (t := 7) (hl.add (t := 13) (hl.add (t := 17) (hl.add (t := 18) (hl.add (t := 19) (hl.nil) rfl) rfl) rfl) rfl) rfl) rfl) rfl) rfl; clear hl; have hl := hl2; clear hl2
          refine then_normal ?_
          refine c_region ?_
          refine wl (wl_val hl rfl trivial (r_move hl rfl) ?_)
          clear hl a; intro a hl
          first | refine wl (w_loadA hl hh rfl trivial agg47 rfl (by repeat (first | exact find_head | apply find_tail)) (by first | (simp only [List.getElem?_cons_zero, List.getElem?_cons_succ, Value.cells, List.take_zero, List.take_succ_cons, List.take_nil, List.drop_zero, List.drop_succ_cons, List.drop_nil, List.length_cons, List.length_nil, List.cons_append, List.nil_append, List.append_nil, Nat.zero_add, Nat.add_zero, Nat.reduceAdd, Nat.reduceBEq, Nat.reduceEqDiff, Nat.ble, BEq.rfl, Bool.and_true, Bool.and_self, cond_true, beq_self_eq_true]; rfl)) (by first | rfl | (simp; done)) ?_) | refine wl (w_loadRA hl hh rfl trivial agg47 rfl hmp (by simp) hq9 rfl ?_)
          clear hl a; intro a hl
          refine wl (w_buildSlice hl hh rfl trivial app50 zero47 rfl rfl rfl rfl rfl (by simp only [fillL, arrPl, List.range_succ, List.range_zero, List.map_cons, List.map_nil, List.map_append, List.nil_append, List.replicate_succ, List.replicate_zero, List.flatten_cons, List.flatten_nil, Nat.zero_mul, Nat.mul_one, Nat.one_mul, Nat.reduceMul, setL, List.getElem?_cons_zero, List.getElem?_cons_succ, Value.cells, List.take_zero, List.take_succ_cons, List.take_nil, List.drop_zero, List.drop_succ_cons, List.drop_nil, List.length_cons, List.length_nil, List.cons_append, List.nil_append, List.append_nil, Nat.zero_add, Nat.add_zero, Nat.reduceAdd, Nat.reduceBEq, Nat.reduceEqDiff, Nat.ble, BEq.rfl, Bool.and_true, Bool.and_self, cond_true, beq_self_eq_true]; rfl) ?_)
          clear hl hh a w; intro k91 a w hl hh
          refine wl (w_append (news := [.int .u64 (bitsOf .or .u64 st.pl (sh64 pk.2)), .slice (some ⟨gb, 0, none⟩) st.num.length gc, .int .i64 (rdP st.num st.nx [bq.1, bq.2]).2.1]) hl hh rfl trivial app50 rfl rfl rfl hrow (by repeat (first | exact keeps_left | apply keeps_mv)) (hh.mem _ _ (Find.mem (by repeat (first | exact find_head | apply find_tail)))) rfl rfl rfl (by omega) (by omega) (by omega) (by decide) ?_)
          clear hl hh a w; intro rv2 E2 a w hR2 hl hh
          have hh3 := hh.comm; clear hh; have hh := hh3; clear hh3
          simp only [List.cons_append, List.nil_append] at hh
          refine wl (wl_val hl rfl trivial (r_assign hl rfl) ?_)
          clear hl a; intro a hl
          refine w_nil ?_
          have hl2 := hl.add (t := 0) (hl.add (t := 1) (hl.add (t := 2) (hl.add (t := 7) (hl.add (t := 17) (hl.add (t := 18) (hl.add (t := 19) (hl.nil) rfl) rfl) rfl) rfl) rfl) rfl) rfl; clear hl; have hl := hl2; clear hl2
          refine blk_normal ?_
          refine then_normal ?_
          refine c_region ?_
          first | refine wl (wl_val hl rfl trivial (r_add hl rfl rfl (by simp only [Fits]; omega)) ?_) | refine wl (wl_val hl rfl trivial (r_addW hl rfl rfl) ?_)
          clear hl a; intro a hl
          refine wl (wl_val hl rfl trivial (r_move hl rfl) ?_)
          clear hl a; intro a hl
          refine w_nil ?_
          have hl2 := hl.add (t := 0) (hl.add (t := 1) (hl.add (t := 2) (hl.add (t := 7) (hl.add (t := 17) (hl.add (t := 18) (hl.add (t := 19) (hl.nil) rfl) rfl) rfl) rfl) rfl) rfl) rfl; clear hl; have hl := hl2; clear hl2
          refine then_normal ?_
          try replace hh := has_fix hh
          first | refine ⟨⟨k + 1, nbs ++ [⟨bitsOf .or .u64 st.pl (sh64 pk.2), (rdP st.num st.nx [bq.1, bq.2]).1, (rdP st.num st.nx [bq.1, bq.2]).2.1, gb, gc, gj⟩], rv2, E2, Es ++ [(gb, C (fl iI (rdP st.num st.nx [bq.1, bq.2]).1 ++ gj) 3)]⟩, (by simp only; omega), ⟨by simp only; omega, (by show List.map SB.core (nbs ++ [_]) = _; rw [List.map_append, hco, followP_no hpk hcore hbq (by rw [htw]; assumption)]; rfl), (by show (nbs ++ [_]).length ≤ k + 1; rw [List.length_append]; simp only [List.length_singleton]; omega), new_row hlen6 rfl hR2, (fun b hb => by rcases List.mem_append.1 hb with h | h; exact List.mem_append_left _ (hblk b h); (rw [List.mem_singleton] at h; subst h; exact List.mem_append_right _ (List.mem_singleton.2 rfl))), (fun b hb => by rcases List.mem_append.1 hb with h | h; exact hokn b h; (rw [List.mem_singleton] at h; subst h; exact (new_ok hok bq _ gb gc gj (hJ.rd st (List.mem_of_getElem? hst)) hr).1)), ⟨(fun b hb => by rcases List.mem_append.1 hb with h | h; exact hfj.rd b h; (rw [List.mem_singleton] at h; subst h; exact (new_ok hok bq 0 gb gc gj (hJ.rd st (List.mem_of_getElem? hst)) hr).2)), (fun b hb => by rcases List.mem_append.1 hb with h | h; exact hfj.cp b h; (rw [List.mem_singleton] at h; subst h; exact ⟨by rw [← hgl, List.length_append, List.length_append, fl_len iI_len, fl_len iI_len]; show (rdP st.num st.nx [bq.1, bq.2]).1.length * 1 + _ = _; rw [hlen6], by show (rdP st.num st.nx [bq.1, bq.2]).1.length ≤ gc; rw [hlen6]; exact hgc⟩))⟩⟩, hl.addE (t := 19) (hl.addE (t := 7) (hl.addE (t := 0) (hl.addE (t := 1) (hl.addE (t := 2) (hl.addE (t := 17) (hl.addE (t := 18) (hl.nil) rfl (by first | rfl | rfl)) rfl (by first | rfl | rfl)) rfl (by first | rfl | rfl)) rfl (by first | rfl | rfl)) rfl (by first | rfl | rfl)) rfl (by first | rfl | rfl)) rfl (by first | rfl | rfl), hh.keep (by repeat (first | exact keeps_nil | apply keeps_cons (by repeat (first | exact find_head | apply find_tail)) (by first  | rfl) | exact keeps_self | exact keeps_left | exact keeps_right | exact keeps_swap | apply keeps_mv))⟩ | refine ⟨⟨k + 1, nbs, nv, En, Es⟩, (by simp only; omega), ⟨by simp only; omega, hco.trans (followP_yes hpk hcore hbq (by rw [htw]; assumption)).symm, by simp only; omega, hrow, hblk, hokn, hfj⟩, hl.addE (t := 19) (hl.addE (t := 7) (hl.addE (t := 0) (hl.addE (t := 1) (hl.addE (t := 2) (hl.addE (t := 17) (hl.addE (t := 18) (hl.nil) rfl (by first | rfl | rfl)) rfl (by first | rfl | rfl)) rfl (by first | rfl | rfl)) rfl (by first | rfl | rfl)) rfl (by first | rfl | rfl)) rfl (by first | rfl | rfl)) rfl (by first | rfl | rfl), hh.keep (by repeat (first | exact keeps_nil | apply keeps_cons (by repeat (first | exact find_head | apply find_tail)) (by first  | rfl) | exact keeps_self | exact keeps_left | exact keeps_right | exact keeps_swap | apply keeps_mv))⟩
        ·
          try clear hM
          refine id (w_alloc hl hh rfl trivial zero47 rfl ?_)
          clear hl hh a w; intro k13 a w hl hh
          have hM : Mem [(fb, C (fl SB.cells bs ++ jf) 47), (k9, C [.int .i64 (pk.1 : Int), .int .i64 (pk.2 : Int)] 61)] w := (by repeat (first | exact Mem.nil | refine Mem.consR hh (by assumption) (by simp) ?_ | refine Mem.cons hh.mem (by repeat (first | exact find_head | apply find_tail)) ?_))
          refine d_step (fun _ => hM) ?_
          refine d_one (i := 13) (by kernel_rfl) rfl ?_
          try clear hM
          refine id (w_appendCopy hl hh rfl trivial app41 rfl rfl rfl hrs (fun b o m => by rw [List.mem_singleton] at m; cases m; exact heap_keep hh (hpre _ _ hS.nb)) (fl_all iI_one _) (by omega) (by omega) (by decide) ?_)
          clear hl hh a w; intro rv3 E3 a w hR3 hl hh
          have hh3 := hh.comm; clear hh; have hh := hh3; clear hh3
          simp only [List.cons_append, List.nil_append] at hh
          obtain ⟨gb, gc, gj, hgv, hgl, hgc, hgE⟩ := row_blk3 hR3 (by omega)
          subst hgv
          subst hgE
          first | replace hh := has_rot (A := [_]) hh | replace hh := has_rot (A := [_, _]) hh
          simp only [List.cons_append, List.nil_append] at hh
          have hM : Mem [(fb, C (fl SB.cells bs ++ jf) 47), (k9, C [.int .i64 (pk.1 : Int), .int .i64 (pk.2 : Int)] 61)] w := (by repeat (first | exact Mem.nil | refine Mem.consR hh (by assumption) (by simp) ?_ | refine Mem.cons hh.mem (by repeat (first | exact find_head | apply find_tail)) ?_))
          refine d_step (fun _ => hM) ?_
          refine d_take (i := 18) hl rfl (by kernel_rfl) (by kernel_rfl) (by kernel_rfl) (by kernel_rfl) (by kernel_rfl) rfl trivial (fun _ _ _ h => h) hM (fun w hC => r_build hl rfl zero47 bld47 (by simp only [fillL, setL, List.getElem?_cons_zero, List.getElem?_cons_succ, Value.cells, List.take_zero, List.take_succ_cons, List.take_nil, List.drop_zero, List.drop_succ_cons, List.drop_nil, List.length_cons, List.length_nil, List.cons_append, List.nil_append, List.append_nil, Nat.zero_add, Nat.add_zero, Nat.reduceAdd, Nat.reduceBEq, Nat.reduceEqDiff, Nat.ble, BEq.rfl, Bool.and_true, Bool.and_self, cond_true, beq_self_eq_true]; rfl)) rfl ?_
          clear hl a; intro a hl
          refine d_one (i := 20) (by kernel_rfl) rfl ?_
          try clear hM
          refine id (w_storeA hl hh trivial agg47 rfl rfl (by repeat (first | exact find_head | apply find_tail)) (by first | rfl | (simp; done)) (by first | (simp; done) | (simp; omega)) (by first | rfl | (simp; done)) (by first | (simp only [setL, List.getElem?_cons_zero, List.getElem?_cons_succ, Value.cells, List.take_zero, List.take_succ_cons, List.take_nil, List.drop_zero, List.drop_succ_cons, List.drop_nil, List.length_cons, List.length_nil, List.cons_append, List.nil_append, List.append_nil, Nat.zero_add, Nat.add_zero, Nat.reduceAdd, Nat.reduceBEq, Nat.reduceEqDiff, Nat.ble, BEq.rfl, Bool.and_true, Bool.and_self, cond_true, beq_self_eq_true]; rfl)) ?_)
          clear hh w; intro w hh
          refine d_step (fun h => absurd h (by decide)) ?_
          refine d_done (by kernel_rfl) ?_
          try clear hM
          have hl2 := hl.add (t := 0) (hl.add (t := 1) (hl.add (t := 2) (hl.add (t := 7) (hl.add (t := 9) (hl.add (t := 13) (hl.add (t := 17) (hl.add (t := 18) (hl.add (t := 19) (hl.nil) rfl) rfl) rfl) rfl) rfl) rfl) rfl) rfl) rfl; clear hl; have hl := hl2; clear hl2
          refine then_normal ?_
          refine c_seq ?_
          refine c_draw [(X.sb, C [.string X.hs, X.hv, .slice (some ⟨X.bb, 0, none⟩) X.n X.n, .int .i64 (X.vs : Int), .slice (some ⟨X.ob, 0, none⟩) X.vs X.vs] 44), (X.bb, C (fl lc X.ab) 34), (k9, C [.int .i64 (pk.1 : Int), .int .i64 (pk.2 : Int)] 61)] [10] mixed hh ?_
          clear hh w; intro w hh
          have hM : Mem [(X.sb, C [.string X.hs, X.hv, .slice (some ⟨X.bb, 0, none⟩) X.n X.n, .int .i64 (X.vs : Int), .slice (some ⟨X.ob, 0, none⟩) X.vs X.vs] 44), (X.bb, C (fl lc X.ab) 34), (k9, C [.int .i64 (pk.1 : Int), .int .i64 (pk.2 : Int)] 61)] w := (by repeat (first | exact Mem.nil | refine Mem.consR hh (by assumption) (by simp) ?_ | refine Mem.cons hh.mem (by repeat (first | exact find_head | apply find_tail)) ?_))
          refine d_take (i := 0) hl rfl (by kernel_rfl) (by kernel_rfl) (by kernel_rfl) (by kernel_rfl) (by kernel_rfl) rfl trivial (fun _ _ _ h => h) hM (fun w hC => r_move hl rfl) rfl ?_
          clear hl a; intro a hl
          refine d_take (i := 1) hl rfl (by kernel_rfl) (by kernel_rfl) (by kernel_rfl) (by kernel_rfl) (by kernel_rfl) rfl trivial (fun _ _ _ h => h) hM (fun w hC => r_nilCheck hl rfl) rfl ?_
          clear hl a; intro a hl
          refine d_take (i := 2) hl rfl (by kernel_rfl) (by kernel_rfl) (by kernel_rfl) (by kernel_rfl) (by kernel_rfl) rfl trivial (fun _ _ _ h => h) hM (fun w hC => r_field hl rfl fld44_1) rfl ?_
          clear hl a; intro a hl
          refine d_take (i := 3) hl rfl (by kernel_rfl) (by kernel_rfl) (by kernel_rfl) (by kernel_rfl) (by kernel_rfl) rfl trivial (fun _ _ _ h => h) hM (fun w hC => r_loadC hl rfl one25 hC (by repeat (first | exact find_head | apply find_tail)) (by rfl)) rfl ?_
          clear hl a; intro a hl
          refine d_take (i := 4) hl rfl (by kernel_rfl) (by kernel_rfl) (by kernel_rfl) (by kernel_rfl) (by kernel_rfl) rfl trivial (fun _ _ _ h => h) hM (fun w hC => r_field hl rfl fld61_1) rfl ?_
          clear hl a; intro a hl
          refine d_take (i := 5) hl rfl (by kernel_rfl) (by kernel_rfl) (by kernel_rfl) (by kernel_rfl) (by kernel_rfl) rfl trivial (fun _ _ _ h => h) hM (fun w hC => r_loadC hl rfl one3 hC (by repeat (first | exact find_head | apply find_tail)) (by first | rfl)) rfl ?_
          clear hl a; intro a hl
          refine d_take (i := 6) hl rfl (by kernel_rfl) (by kernel_rfl) (by kernel_rfl) (by kernel_rfl) (by kernel_rfl) rfl trivial (fun _ _ _ h => h) hM (fun w hC => r_indexS hl rfl rfl slc25 (by omega) (by omega) (by first | (simp only [Int.reduceToNat]; rfl) | exact toNat_add1 _ | exact toNat_add2 _ _ | exact toNat_emod _ _ | exact Int.toNat_natCast _ | rfl)) rfl ?_
          clear hl a; intro a hl
          refine d_take (i := 7) hl rfl (by kernel_rfl) (by kernel_rfl) (by kernel_rfl) (by kernel_rfl) (by kernel_rfl) rfl trivial (fun _ _ _ h => h) hM (fun w hC => r_field hl rfl fld34_2) rfl ?_
          clear hl a; intro a hl
          refine d_take (i := 8) hl rfl (by kernel_rfl) (by kernel_rfl) (by kernel_rfl) (by kernel_rfl) (by kernel_rfl) rfl trivial (fun _ _ _ h => h) hM (fun w hC => r_field hl rfl fld24_1) rfl ?_
          clear hl a; intro a hl
          refine d_take (i := 9) hl rfl (by kernel_rfl) (by kernel_rfl) (by kernel_rfl) (by kernel_rfl) (by kernel_rfl) rfl trivial (fun _ _ _ h => h) hM (fun w hC => r_loadC hl rfl one22 hC (by repeat (first | exact find_head | apply find_tail)) (by exact lc_args hab0)) rfl ?_
          clear hl a; intro a hl
          refine d_one (i := 10) (by kernel_rfl) rfl ?_
          try clear hM
          refine id (w_call hl hh rfl trivial rfl cal6 rfl (read_keep k13 0 gb gc [.int .u64 (bitsOf .or .u64 st.pl (sh64 pk.2)), .slice (some ⟨gb, 0, none⟩) st.num.length gc, .int .i64 st.nx] 47 st.num gj st.nx [bq.1, bq.2] (some ⟨ab, 0, none⟩) 2 [(ab, C (fl tc [(bq.1 : Int), (bq.2 : Int)] ++ []) 30)] (.inr ⟨ab, 2, [], rfl, rfl, rfl, Nat.le_refl _, rfl⟩) (fun z hz => by rw [List.mem_singleton] at hz; subst hz; exact ⟨fresh_ne hh (hpre _ _ hab) (Find.mem (by repeat (first | exact find_head | apply find_tail))), fresh_ne hh (hpre _ _ hab) (Find.mem (by repeat (first | exact find_head | apply find_tail)))⟩) rfl rfl (fun v hv => by simp at hv; rcases hv with rfl | rfl <;> omega) (by omega) (by simp) ⟨hok.nx.1, by have := hok.nx.2; omega⟩) (by repeat (first | exact keeps_nil | apply keeps_cons (by repeat (first | exact find_head | apply find_tail)) (by first  | rfl) | exact keeps_self | exact keeps_left | exact keeps_right | exact keeps_swap | apply keeps_mv)) (fun b o m => by rw [List.mem_singleton] at m; cases m; rw [List.append_nil]; exact heap_keep hh (hpre _ _ hab)) ?_)
          clear hl hh a w; intro vc Fc a w hR hl hh
          obtain ⟨Eo, hRo, hlen6, rfl⟩ := hR
          try simp only [List.cons_append, List.nil_append] at hh
          replace hh := has_drop2 hh
          refine d_step (fun h => absurd h (by decide)) ?_
          refine d_done (by kernel_rfl) ?_
          try clear hM
          have hl2 := hl.add (t := 0) (hl.add (t := 1) (hl.add (t := 2) (hl.add (t := 7) (hl.add (t := 13) (hl.add (t := 17) (hl.add (t := 18) (hl.add (t := 19) (hl.nil) rfl) rfl) rfl) rfl) rfl) rfl) rfl) rfl; clear hl; have hl := hl2; clear hl2
          refine then_normal ?_
          refine c_region ?_
          refine wl (wl_val hl rfl trivial (r_move hl rfl) ?_)
          clear hl a; intro a hl
          first | refine wl (w_loadA hl hh rfl trivial agg47 rfl (by repeat (first | exact find_head | apply find_tail)) (by first | (simp only [List.getElem?_cons_zero, List.getElem?_cons_succ, Value.cells, List.take_zero, List.take_succ_cons, List.take_nil, List.drop_zero, List.drop_succ_cons, List.drop_nil, List.length_cons, List.length_nil, List.cons_append, List.nil_append, List.append_nil, Nat.zero_add, Nat.add_zero, Nat.reduceAdd, Nat.reduceBEq, Nat.reduceEqDiff, Nat.ble, BEq.rfl, Bool.and_true, Bool.and_self, cond_true, beq_self_eq_true]; rfl)) (by first | rfl | (simp; done)) ?_) | refine wl (w_loadRA hl hh rfl trivial agg47 rfl hmp (by simp) hq9 rfl ?_)
          clear hl a; intro a hl
          refine wl (w_buildSlice hl hh rfl trivial app50 zero47 rfl rfl rfl rfl rfl (by simp only [fillL, arrPl, List.range_succ, List.range_zero, List.map_cons, List.map_nil, List.map_append, List.nil_append, List.replicate_succ, List.replicate_zero, List.flatten_cons, List.flatten_nil, Nat.zero_mul, Nat.mul_one, Nat.one_mul, Nat.reduceMul, setL, List.getElem?_cons_zero, List.getElem?_cons_succ, Value.cells, List.take_zero, List.take_succ_cons, List.take_nil, List.drop_zero, List.drop_succ_cons, List.drop_nil, List.length_cons, List.length_nil, List.cons_append, List.nil_append, List.append_nil, Nat.zero_add, Nat.add_zero, Nat.reduceAdd, Nat.reduceBEq, Nat.reduceEqDiff, Nat.ble, BEq.rfl, Bool.and_true, Bool.and_self, cond_true, beq_self_eq_true]; rfl) ?_)
          clear hl hh a w; intro k91 a w hl hh
          refine wl (w_append (news := [.int .u64 (bitsOf .or .u64 st.pl (sh64 pk.2)), .slice (some ⟨gb, 0, none⟩) st.num.length gc, .int .i64 (rdP st.num st.nx [bq.1, bq.2]).2.1]) hl hh rfl trivial app50 rfl rfl rfl hrow (by repeat (first | exact keeps_left | apply keeps_mv)) (hh.mem _ _ (Find.mem (by repeat (first | exact find_head | apply find_tail)))) rfl rfl rfl (by omega) (by omega) (by omega) (by decide) ?_)
          clear hl hh a w; intro rv2 E2 a w hR2 hl hh
          have hh3 := hh.comm; clear hh; have hh := hh3; clear hh3
          simp only [List.cons_append, List.nil_append] at hh
          refine wl (wl_val hl rfl trivial (r_assign hl rfl) ?_)
          clear hl a; intro a hl
          refine w_nil ?_
          have hl2 := hl.add (t := 0) (hl.add (t := 1) (hl.add (t := 2) (hl.add (t := 7) (hl.add (t := 17) (hl.add (t := 18) (hl.add (t := 19) (hl.nil) rfl) rfl) rfl) rfl) rfl) rfl) rfl; clear hl; have hl := hl2; clear hl2
          refine blk_normal ?_
          refine then_normal ?_
          refine c_region ?_
          first | refine wl (wl_val hl rfl trivial (r_add hl rfl rfl (by simp only [Fits]; omega)) ?_) | refine wl (wl_val hl rfl trivial (r_addW hl rfl rfl) ?_)
          clear hl a; intro a hl
          refine wl (wl_val hl rfl trivial (r_move hl rfl) ?_)
          clear hl a; intro a hl
          refine w_nil ?_
          have hl2 := hl.add (t := 0) (hl.add (t := 1) (hl.add (t := 2) (hl.add (t := 7) (hl.add (t := 17) (hl.add (t := 18) (hl.add (t := 19) (hl.nil) rfl) rfl) rfl) rfl) rfl) rfl) rfl; clear hl; have hl := hl2; clear hl2
          refine then_normal ?_
          try replace hh := has_fix hh
          first | refine ⟨⟨k + 1, nbs ++ [⟨bitsOf .or .u64 st.pl (sh64 pk.2), (rdP st.num st.nx [bq.1, bq.2]).1, (rdP st.num st.nx [bq.1, bq.2]).2.1, gb, gc, gj⟩], rv2, E2, Es ++ [(gb, C (fl iI (rdP st.num st.nx [bq.1, bq.2]).1 ++ gj) 3)]⟩, (by simp only; omega), ⟨by simp only; omega, (by show List.map SB.core (nbs ++ [_]) = _; rw [List.map_append, hco, followP_no hpk hcore hbq (by rw [htw]; assumption)]; rfl), (by show (nbs ++ [_]).length ≤ k + 1; rw [List.length_append]; simp only [List.length_singleton]; omega), new_row hlen6 rfl hR2, (fun b hb => by rcases List.mem_append.1 hb with h | h; exact List.mem_append_left _ (hblk b h); (rw [List.mem_singleton] at h; subst h; exact List.mem_append_right _ (List.mem_singleton.2 rfl))), (fun b hb => by rcases List.mem_append.1 hb with h | h; exact hokn b h; (rw [List.mem_singleton] at h; subst h; exact (new_ok hok bq _ gb gc gj (hJ.rd st (List.mem_of_getElem? hst)) hr).1)), ⟨(fun b hb => by rcases List.mem_append.1 hb with h | h; exact hfj.rd b h; (rw [List.mem_singleton] at h; subst h; exact (new_ok hok bq 0 gb gc gj (hJ.rd st (List.mem_of_getElem? hst)) hr).2)), (fun b hb => by rcases List.mem_append.1 hb with h | h; exact hfj.cp b h; (rw [List.mem_singleton] at h; subst h; exact ⟨by rw [← hgl, List.length_append, List.length_append, fl_len iI_len, fl_len iI_len]; show (rdP st.num st.nx [bq.1, bq.2]).1.length * 1 + _ = _; rw [hlen6], by show (rdP st.num st.nx [bq.1, bq.2]).1.length ≤ gc; rw [hlen6]; exact hgc⟩))⟩⟩, hl.addE (t := 19) (hl.addE (t := 7) (hl.addE (t := 0) (hl.addE (t := 1) (hl.addE (t := 2) (hl.addE (t := 17) (hl.addE (t := 18) (hl.nil) rfl (by first | rfl | rfl)) rfl (by first | rfl | rfl)) rfl (by first | rfl | rfl)) rfl (by first | rfl | rfl)) rfl (by first | rfl | rfl)) rfl (by first | rfl | rfl)) rfl (by first | rfl | rfl), hh.keep (by repeat (first | exact keeps_nil | apply keeps_cons (by repeat (first | exact find_head | apply find_tail)) (by first  | rfl) | exact keeps_self | exact keeps_left | exact keeps_right | exact keeps_swap | apply keeps_mv))⟩ | refine ⟨⟨k + 1, nbs, nv, En, Es⟩, (by simp only; omega), ⟨by simp only; omega, hco.trans (followP_yes hpk hcore hbq (by rw [htw]; assumption)).symm, by simp only; omega, hrow, hblk, hokn, hfj⟩, hl.addE (t := 19) (hl.addE (t := 7) (hl.addE (t := 0) (hl.addE (t := 1) (hl.addE (t := 2) (hl.addE (t := 17) (hl.addE (t := 18) (hl.nil) rfl (by first | rfl | rfl)) rfl (by first | rfl | rfl)) rfl (by first | rfl | rfl)) rfl (by first | rfl | rfl)) rfl (by first | rfl | rfl)) rfl (by first | rfl | rfl)) rfl (by first | rfl | rfl), hh.keep (by repeat (first | exact keeps_nil | apply keeps_cons (by repeat (first | exact find_head | apply find_tail)) (by first  | rfl) | exact keeps_self | exact keeps_left | exact keeps_right | exact keeps_swap | apply keeps_mv))⟩
  · intro hc0
    try simp only [decide_eq_true_eq, decide_eq_false_iff_not, Bool.not_eq_true', Bool.not_eq_false', Bool.not_eq_true, Bool.not_eq_false, Bool.and_eq_true, Bool.or_eq_true, Bool.and_eq_false_iff, Bool.or_eq_false_iff, Bool.not_not, ne_eq, Int.not_lt, Int.not_le, Decidable.not_not, beq_iff_eq, bne_iff_ne] at hc0
    refine wp_exit ?_
    refine then_exit ?_
    refine then_exit ?_
    refine blk_exit ?_
    refine then_normal ?_
    refine c_seq ?_
    refine c_region ?_
    refine wl (wl_val hl rfl trivial (r_move hl rfl) ?_)
    clear hl a; intro a hl
    refine wl (wl_val hl rfl trivial (r_assign hl rfl) ?_)
    clear hl a; intro a hl
    refine w_nil ?_
    have hl2 := hl.add (t := 6) (hl.nil) rfl; clear hl; have hl := hl2; clear hl2
    refine then_normal ?_
    refine wp_ret ?_
    refine f_ret1 (F' := En ++ Es) hl hh rfl rfl (by repeat (first | exact keeps_nil | apply keeps_cons (by repeat (first | exact find_head | apply find_tail)) (by first  | rfl) | exact keeps_self | exact keeps_left | exact keeps_right | exact keeps_swap | apply keeps_mv)) ?_
    exact ⟨nbs, En, Es, (by have hke : k = picks.length := (by omega); rw [hke] at hco; exact hco), (by omega), hrow, hblk, hokn, hfj, rfl⟩
end Go.Proofs.Qxb6500915a

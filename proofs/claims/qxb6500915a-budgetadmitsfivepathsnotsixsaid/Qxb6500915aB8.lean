import Derived.Test.Qxb6500915aB7
namespace Go.Proofs.Qxb6500915a
open Go.Eng
set_option linter.unusedVariables false
set_option linter.unusedSimpArgs false
theorem cal9 : callable Try.prog 9 = true := by kernel_rfl
theorem fld27_1 : fieldOk Try.prog 27 1 2 = true := by kernel_rfl
theorem app25 : appOk Try.prog 25 34 4 48 = true := by kernel_rfl
theorem zero44 : zeroOk Try.prog 44 (.agg #[(.string ⟨#[]⟩), (.slice none 0 0), (.slice none 0 0), (.int .i64 0), (.slice none 0 0)]) := by unfold zeroOk; kernel_rfl
theorem bld44 : buildOk Try.prog 44 [(0, 2), (2, 1), (3, 1), (4, 1)] = true := by kernel_rfl
theorem zero55 : zeroOk Try.prog 55 (.map none) := by unfold zeroOk; kernel_rfl
theorem fld27_0 : fieldOk Try.prog 27 0 0 = true := by kernel_rfl
theorem zero24 : zeroOk Try.prog 24 (.agg #[(.string ⟨#[]⟩), (.slice none 0 0)]) := by unfold zeroOk; kernel_rfl
theorem bld24 : buildOk Try.prog 24 [(0, 1), (1, 1)] = true := by kernel_rfl
theorem fld44_0 : fieldOk Try.prog 44 0 0 = true := by kernel_rfl
theorem fld44_2 : fieldOk Try.prog 44 2 3 = true := by kernel_rfl
theorem app42 : appOk Try.prog 42 45 1 8 = true := by kernel_rfl
theorem zero45 : zeroOk Try.prog 45 (.int .u64 0) := by unfold zeroOk; kernel_rfl
/-- how many variables the first literals hold -/
def mAt (body : List (Nat × Nat)) (j : Nat) : Nat := mN 0 ((body.take j).flatMap fun p => [p.1, p.2])
theorem mAt_zero (body : List (Nat × Nat)) : mAt body 0 = 0 := by simp [mAt, mN]
theorem mAt_succ {body : List (Nat × Nat)} {j : Nat} {p : Nat × Nat} (h : body[j]? = some p) : mAt body (j + 1) = mN (mAt body j) [p.1, p.2] := by
  unfold mAt
  rw [List.take_add_one, h, List.flatMap_append]
  unfold mN
  rw [List.foldl_append]
  simp
theorem mS_le (m v : Nat) : mS m v ≤ m + 1 := by unfold mS; split <;> omega
theorem mS_ge (m v : Nat) : m ≤ mS m v := by unfold mS; split <;> omega
theorem mAt_le (body : List (Nat × Nat)) : ∀ j, j ≤ body.length → mAt body j ≤ 2 * j
  | 0, _ => by rw [mAt_zero]; omega
  | j + 1, h => by
    have ih := mAt_le body j (by omega)
    rw [mAt_succ (List.getElem?_eq_getElem (by omega))]
    unfold mN
    simp only [List.foldl_cons, List.foldl_nil]
    have h1 := mS_le (mAt body j) body[j].1
    have h2 := mS_le (mS (mAt body j) body[j].1) body[j].2
    omega
def argE (ab : List Nat) (body : List (Nat × Nat)) : List (Nat × Obj) := List.zipWith (fun b p => (b, C (fl tc [(p.1 : Int), (p.2 : Int)]) 30)) ab body
theorem argE_snoc {b : Nat} {p : Nat × Nat} : ∀ (ab : List Nat) (body : List (Nat × Nat)), body[ab.length]? = some p → argE (ab ++ [b]) body = argE ab body ++ [(b, C (fl tc [(p.1 : Int), (p.2 : Int)]) 30)]
  | [], [], h => by cases h
  | [], q :: body, h => by
    have : q = p := Option.some.inj h
    subst this
    simp [argE]
  | a :: ab, [], h => by cases h
  | a :: ab, q :: body, h => by
    have := argE_snoc (b := b) ab body h
    unfold argE at this ⊢
    rw [List.cons_append, List.zipWith_cons_cons, this]; rfl
theorem argE_mem {ab : List Nat} {body : List (Nat × Nat)} {j b : Nat} {p : Nat × Nat} (h1 : ab[j]? = some b) (h2 : body[j]? = some p) : (b, C (fl tc [(p.1 : Int), (p.2 : Int)]) 30) ∈ argE ab body := by
  apply List.mem_of_getElem? (i := j)
  unfold argE
  rw [List.getElem?_zipWith, h1, h2]
/-- literal i is put down as an occurrence of v -/
def ocS (oc : List Int) (i v : Nat) : List Int := match oc[v]? with | some o => oc.set v (bitsOf .or .u64 o (sh64 i)) | none => oc
theorem ocS_len (oc : List Int) (i v : Nat) : (ocS oc i v).length = oc.length := by unfold ocS; split <;> simp
theorem ocS_eq {oc : List Int} {i v : Nat} {o : Int} (h : oc[v]? = some o) : ocS oc i v = oc.set v (bitsOf .or .u64 o (sh64 i)) := by unfold ocS; rw [h]
def ocA (body : List (Nat × Nat)) (vs : Nat) : Nat → List Int
  | 0 => List.replicate vs 0
  | j + 1 => match body[j]? with | some p => ocS (ocS (ocA body vs j) j p.1) j p.2 | none => ocA body vs j
theorem ocA_succ {body : List (Nat × Nat)} {vs j : Nat} {p : Nat × Nat} (h : body[j]? = some p) : ocA body vs (j + 1) = ocS (ocS (ocA body vs j) j p.1) j p.2 := by
  conv => lhs; unfold ocA
  rw [h]
theorem ocA_len (body : List (Nat × Nat)) (vs : Nat) : ∀ j, (ocA body vs j).length = vs
  | 0 => by simp [ocA]
  | j + 1 => by
    have ih := ocA_len body vs j
    unfold ocA
    split
    · rw [ocS_len, ocS_len, ih]
    · exact ih
/-- a rule's body lies in memory -/
structure RuIn (body : List (Nat × Nat)) (ra : List Nat) (rb n : Nat) (rj : List Value) (Z : List (Nat × Obj)) : Prop where
  b : (rb, C (fl lc ra ++ rj) 34) ∈ Z
  a : ∀ (j b : Nat) (p : Nat × Nat), ra[j]? = some b → body[j]? = some p → (b, C (fl tc [(p.1 : Int), (p.2 : Int)]) 30) ∈ Z
  nl : body.length = n
  al : ra.length = n
  n64 : n ≤ 64
  dn : ∀ (j : Nat) (p : Nat × Nat), body[j]? = some p → Dn (mAt body j) [p.1, p.2]
  vb : ∀ (j : Nat) (p : Nat × Nat), body[j]? = some p → p.1 < mAt body n ∧ p.2 < mAt body n
structure NS where
  i : Nat
  ab : List Nat
  jb : List Value
structure NSI (n : Nat) (s : NS) : Prop where
  hi : s.i ≤ n
  al : s.ab.length = s.i
  jl : (fl lc s.ab ++ s.jb).length = n * 4
theorem has_mv3 {D : List Nat} {w0 w : World} {x y z : Nat × Obj} {A E : List (Nat × Obj)} (h : Has D w0 (x :: y :: z :: (A ++ E)) w) : Has D w0 (x :: y :: (A ++ (E ++ [z]))) w := by
  refine h.perm (List.Perm.cons _ (List.Perm.cons _ ?_))
  rw [← List.append_assoc]
  exact (List.perm_append_comm (l₁ := A ++ E) (l₂ := [z])).symm
theorem map2 (x y : Nat) : ([x, y].map fun (v : Nat) => (v : Int)) = [(x : Int), (y : Int)] := rfl
theorem app_lc {ab : List Nat} {jb : List Value} {i n ka : Nat} (h : ab.length = i) (hl : (fl lc ab ++ jb).length = n * 4) (hi : i < n) : setL (fl lc ab ++ jb) (0 + i * 4) [.int .u8 0, .int .u8 0, .string es, .slice (some ⟨ka, 0, none⟩) 2 2] = fl lc (ab ++ [ka]) ++ jb.drop 4 := by
  subst h; exact app_set lc_len ab ka jb (by rw [List.length_append, fl_len lc_len] at hl; omega)
theorem app_lcl {ab : List Nat} {jb : List Value} {n ka : Nat} (hl : (fl lc ab ++ jb).length = n * 4) (hi : ab.length < n) : (fl lc (ab ++ [ka]) ++ jb.drop 4).length = n * 4 := by
  rw [app_len lc_len ab ka jb (by rw [List.length_append, fl_len lc_len] at hl; omega)]; exact hl
theorem ns_done {ab : List Nat} {jb : List Value} {n : Nat} (hl : (fl lc ab ++ jb).length = n * 4) (h : ab.length = n) : fl lc ab ++ jb = fl lc ab := by
  rw [List.length_append, fl_len lc_len, h] at hl
  rw [List.eq_nil_of_length_eq_zero (l := jb) (by omega), List.append_nil]
theorem zeros_uI {l : List Value} {n : Nat} (h1 : l.length = n * 1) (h2 : ∀ j, j < n * 1 → l[j]? = some ((Value.int .u64 0).cells[j % 1]!)) : l = fl uI (List.replicate n 0) := by
  have hl : (fl uI (List.replicate n 0)).length = n := by rw [fl_len uI_len, List.length_replicate]; omega
  apply List.ext_getElem?
  intro j
  by_cases hj : j < n
  · have h3 := uI_at (l := List.replicate n 0) (i := j) (x := 0) (by rw [List.getElem?_replicate, if_pos hj])
    rw [Nat.zero_add, Nat.mul_one] at h3
    rw [h3, h2 j (by omega), Nat.mod_one]
    rfl
  · rw [List.getElem?_eq_none (by omega), List.getElem?_eq_none (by omega)]
theorem uI_set {l : List Int} {v : Nat} {x : Int} (h : v < l.length) : setL (fl uI l) (0 + v * 1) [.int .u64 x] = fl uI (l.set v x) := by
  have := fl_set uI_len l x [] v h
  rw [List.append_nil, List.append_nil] at this; exact this
theorem two_ex {p : Nat × Nat} {q : Nat} (h : q < 2) : ∃ v : Nat, [(p.1 : Int), (p.2 : Int)][q]? = some (v : Int) := by
  rcases (show q = 0 ∨ q = 1 by omega) with rfl | rfl
  · exact ⟨p.1, rfl⟩
  · exact ⟨p.2, rfl⟩
structure OQ (oc : List Int) (i : Nat) (p : Nat × Nat) (vs : Nat) (s : Nat × List Int) : Prop where
  hq : s.1 ≤ 2
  ln : s.2.length = vs
  e0 : s.1 = 0 → s.2 = oc
  e1 : s.1 = 1 → s.2 = ocS oc i p.1
  e2 : s.1 = 2 → s.2 = ocS (ocS oc i p.1) i p.2
theorem OQ.next {oc : List Int} {i : Nat} {p : Nat × Nat} {vs q v : Nat} {ou : List Int} {o : Int} (h : OQ oc i p vs (q, ou)) (hq : q < 2) (hv : [(p.1 : Int), (p.2 : Int)][q]? = some (v : Int)) (ho : ou[v]? = some o) : OQ oc i p vs (q + 1, ou.set v (bitsOf .or .u64 o (sh64 i))) := by
  refine ⟨by simp only; omega, by rw [List.length_set]; exact h.ln, fun e => by simp at e, fun e => ?_, fun e => ?_⟩
  · have hq0 : q = 0 := by simpa using e
    rcases two_at hv hq with ⟨_, rfl⟩ | ⟨h1, _⟩
    · have := h.e0 hq0
      simp only at this
      subst this
      exact (ocS_eq ho).symm
    · omega
  · have hq1 : q = 1 := by simpa using e
    rcases two_at hv hq with ⟨h1, _⟩ | ⟨_, rfl⟩
    · omega
    · have := h.e1 hq1
      simp only at this
      subst this
      exact (ocS_eq ho).symm
theorem lc_at0 {ab : List Nat} {j b : Nat} (h : ab[j]? = some b) : ((fl lc ab).drop (0 + j * 4)).take 4 = [.int .u8 0, .int .u8 0, .string es, .slice (some ⟨b, 0, none⟩) 2 2] := by
  have := fl_at lc_len h []
  rw [List.append_nil] at this; exact this
theorem argE_nil (body : List (Nat × Nat)) : argE [] body = [] := by simp [argE]
attribute [local irreducible] argE mAt sh64


set_option maxHeartbeats 16000000 in
theorem search_spec (body : List (Nat × Nat)) (ra : List Nat) (rb n rc : Nat) (rj : List Value) (hs : ByteArray) (Z : List (Nat × Obj)) (hU : RuIn body ra rb n rj Z) : SpK Try.prog 5 #[.agg ⟨[.string hs, .slice none 0 0, .slice (some ⟨rb, 0, none⟩) n rc]⟩] (Mem Z) [] (fun u F' => ∃ (X : SX) (hb : Nat) (E : List (Nat × Obj)), u = .pointer (some ⟨X.sb, 0, none⟩) ∧ X.body = body ∧ X.n = n ∧ X.vs = mAt body n ∧ X.oc = ocA body (mAt body n) n ∧ X.hv = .slice (some ⟨hb, 0, none⟩) 0 0 ∧ (hb, C [] 30) ∈ E ∧ SIn X F' ∧ F' = (X.sb, C [.string X.hs, X.hv, .slice (some ⟨X.bb, 0, none⟩) X.n X.n, .int .i64 (X.vs : Int), .slice (some ⟨X.ob, 0, none⟩) X.vs X.vs] 44) :: E) := by
  refine f_enter (args := [.agg ⟨[.string hs, .slice none 0 0, .slice (some ⟨rb, 0, none⟩) n rc]⟩]) Try.func5 rfl Try.ntmps5 rfl ?_
  intro w0 w a hpre hl hh
  have hmr := hpre _ _ hU.b
  have h64 := hU.n64
  have hvs : mAt body n ≤ 2 * n := by have := mAt_le body n (by rw [hU.nl]; exact Nat.le_refl _); exact this
  simp only [slotsFrom, Nat.reduceAdd] at hl
  refine c_seq ?_
  refine c_region ?_
  refine wl (w_box hl hh rfl trivial rfl rfl ?_)
  clear hl hh a w; intro k1 a w hl hh
  refine wl (wl_val hl rfl trivial (r_assign hl rfl) ?_)
  clear hl a; intro a hl
  refine w_nil ?_
  have hl2 := hl.add (t := 1) (hl.nil) rfl; clear hl; have hl := hl2; clear hl2
  refine then_normal ?_
  refine c_seq ?_
  refine c_region ?_
  refine wl (wl_val hl rfl trivial (r_field hl rfl fld27_1) ?_)
  clear hl a; intro a hl
  refine wl (w_load hl hh rfl trivial one25 rfl (by repeat (first | exact find_head | apply find_tail)) (by first | rfl) ?_)
  clear hl a; intro a hl
  refine wl (wl_val hl rfl trivial (r_lenS hl rfl slc25) ?_)
  clear hl a; intro a hl
  refine wl (w_makeSliceN hl hh rfl trivial app25 zero34 rfl rfl (by omega) (by decide) ?_)
  clear hl hh a w; intro k15 jk15 a w hjk15 hl hh
  refine wl (wl_val hl rfl trivial (r_build hl rfl zero44 bld44 (by simp only [fillL, setL, List.getElem?_cons_zero, List.getElem?_cons_succ, Value.cells, List.take_zero, List.take_succ_cons, List.take_nil, List.drop_zero, List.drop_succ_cons, List.drop_nil, List.length_cons, List.length_nil, List.cons_append, List.nil_append, List.append_nil, Nat.zero_add, Nat.add_zero, Nat.reduceAdd, Nat.reduceBEq, Nat.reduceEqDiff, Nat.ble, BEq.rfl, Bool.and_true, Bool.and_self, cond_true, beq_self_eq_true]; rfl)) ?_)
  clear hl a; intro a hl
  refine wl (w_box hl hh rfl trivial rfl rfl ?_)
  clear hl hh a w; intro k17 a w hl hh
  refine wl (wl_val hl rfl trivial (r_assign hl rfl) ?_)
  clear hl a; intro a hl
  refine w_nil ?_
  have hl2 := hl.add (t := 1) (hl.add (t := 3) (hl.nil) rfl) rfl; clear hl; have hl := hl2; clear hl2
  refine then_normal ?_
  refine c_seq ?_
  refine c_region ?_
  refine wl (w_makeMap (kInt .i64) hl hh rfl trivial ?_)
  clear hl hh a w; intro k18 a w hl hh
  refine wl (w_alloc hl hh rfl trivial zero55 rfl ?_)
  clear hl hh a w; intro k4 a w hl hh
  refine wl (w_store hl hh trivial one55 rfl rfl (by repeat (first | exact find_head | apply find_tail)) (by first | (simp; done) | (simp; omega)) (by first | rfl | assumption | (apply Row.one; assumption)) (by first | (simp only [setL, List.getElem?_cons_zero, List.getElem?_cons_succ, Value.cells, List.take_zero, List.take_succ_cons, List.take_nil, List.drop_zero, List.drop_succ_cons, List.drop_nil, List.length_cons, List.length_nil, List.cons_append, List.nil_append, List.append_nil, Nat.zero_add, Nat.add_zero, Nat.reduceAdd, Nat.reduceBEq, Nat.reduceEqDiff, Nat.ble, BEq.rfl, Bool.and_true, Bool.and_self, cond_true, beq_self_eq_true]; rfl)) ?_)
  clear hh w; intro w hh
  refine w_nil ?_
  have hl2 := hl.add (t := 1) (hl.add (t := 3) (hl.add (t := 4) (hl.nil) rfl) rfl) rfl; clear hl; have hl := hl2; clear hl2
  refine then_normal ?_
  refine c_seq ?_
  refine c_region ?_
  refine wl (wl_val hl rfl trivial (r_makeFunc hl rfl) ?_)
  clear hl a; intro a hl
  refine wl (wl_val hl rfl trivial (r_assign hl rfl) ?_)
  clear hl a; intro a hl
  refine w_nil ?_
  have hl2 := hl.add (t := 1) (hl.add (t := 3) (hl.add (t := 4) (hl.add (t := 5) (hl.nil) rfl) rfl) rfl) rfl; clear hl; have hl := hl2; clear hl2
  refine then_normal ?_
  refine c_seq ?_
  refine c_draw [(k1, C [.string hs, .slice none 0 0, .slice (some ⟨rb, 0, none⟩) n rc] 27)] [10, 11, 12] mixed hh ?_
  clear hh w; intro w hh
  have hM : Mem [(k1, C [.string hs, .slice none 0 0, .slice (some ⟨rb, 0, none⟩) n rc] 27)] w := (by repeat (first | exact Mem.nil | refine Mem.cons hh.mem (by repeat (first | exact find_head | apply find_tail)) ?_ | refine Mem.consR hh (by assumption) (by simp) ?_))
  refine d_take (i := 0) hl rfl (by kernel_rfl) (by kernel_rfl) (by kernel_rfl) (by kernel_rfl) (by kernel_rfl) rfl trivial (fun _ _ _ h => h) hM (fun w hC => r_move hl rfl) rfl ?_
  clear hl a; intro a hl
  refine d_take (i := 1) hl rfl (by kernel_rfl) (by kernel_rfl) (by kernel_rfl) (by kernel_rfl) (by kernel_rfl) rfl trivial (fun _ _ _ h => h) hM (fun w hC => r_field hl rfl fld27_0) rfl ?_
  clear hl a; intro a hl
  refine d_take (i := 2) hl rfl (by kernel_rfl) (by kernel_rfl) (by kernel_rfl) (by kernel_rfl) (by kernel_rfl) rfl trivial (fun _ _ _ h => h) hM (fun w hC => r_field hl rfl fld24_0) rfl ?_
  clear hl a; intro a hl
  refine d_take (i := 3) hl rfl (by kernel_rfl) (by kernel_rfl) (by kernel_rfl) (by kernel_rfl) (by kernel_rfl) rfl trivial (fun _ _ _ h => h) hM (fun w hC => r_loadC hl rfl one9 hC (by repeat (first | exact find_head | apply find_tail)) (by first | rfl)) rfl ?_
  clear hl a; intro a hl
  refine d_take (i := 4) hl rfl (by kernel_rfl) (by kernel_rfl) (by kernel_rfl) (by kernel_rfl) (by kernel_rfl) rfl trivial (fun _ _ _ h => h) hM (fun w hC => r_move hl rfl) rfl ?_
  clear hl a; intro a hl
  refine d_take (i := 5) hl rfl (by kernel_rfl) (by kernel_rfl) (by kernel_rfl) (by kernel_rfl) (by kernel_rfl) rfl trivial (fun _ _ _ h => h) hM (fun w hC => r_field hl rfl fld27_0) rfl ?_
  clear hl a; intro a hl
  refine d_take (i := 6) hl rfl (by kernel_rfl) (by kernel_rfl) (by kernel_rfl) (by kernel_rfl) (by kernel_rfl) rfl trivial (fun _ _ _ h => h) hM (fun w hC => r_field hl rfl fld24_1) rfl ?_
  clear hl a; intro a hl
  refine d_take (i := 7) hl rfl (by kernel_rfl) (by kernel_rfl) (by kernel_rfl) (by kernel_rfl) (by kernel_rfl) rfl trivial (fun _ _ _ h => h) hM (fun w hC => r_loadC hl rfl one22 hC (by repeat (first | exact find_head | apply find_tail)) (by first | rfl)) rfl ?_
  clear hl a; intro a hl
  refine d_one (i := 8) (by kernel_rfl) rfl ?_
  try clear hM
  refine id (w_call hl hh rfl trivial rfl cal9 rfl (ren_spec k4 k18 0 [] none 0 [] (Row.nil _ _) (fun z hz => by cases hz) (fun i v h => by cases h) (by decide)) (by repeat (first | exact keeps_nil | apply keeps_cons (by repeat (first | exact find_head | apply find_tail)) (by first  | rfl) | exact keeps_self | exact keeps_left | exact keeps_right | exact keeps_swap | apply keeps_mv)) (fun b o m => by cases m) ?_)
  clear hl hh a w; intro vc Fc a w hR hl hh
  obtain ⟨kh, rfl, rfl⟩ := hR
  try simp only [List.cons_append, List.nil_append] at hh
  rw [show fl tc (([] : List Nat).map fun (v : Nat) => (v : Int)) = [] from rfl, show mN 0 [] = 0 from rfl] at hh
  simp only [List.length_nil] at hl
  have hM : Mem [(k1, C [.string hs, .slice none 0 0, .slice (some ⟨rb, 0, none⟩) n rc] 27)] w := (by repeat (first | exact Mem.nil | refine Mem.cons hh.mem (by repeat (first | exact find_head | apply find_tail)) ?_ | refine Mem.consR hh (by assumption) (by simp) ?_))
  refine d_step (fun _ => hM) ?_
  refine d_take (i := 9) hl rfl (by kernel_rfl) (by kernel_rfl) (by kernel_rfl) (by kernel_rfl) (by kernel_rfl) rfl trivial (fun _ _ _ h => h) hM (fun w hC => r_build hl rfl zero24 bld24 (by simp only [fillL, setL, List.getElem?_cons_zero, List.getElem?_cons_succ, Value.cells, List.take_zero, List.take_succ_cons, List.take_nil, List.drop_zero, List.drop_succ_cons, List.drop_nil, List.length_cons, List.length_nil, List.cons_append, List.nil_append, List.append_nil, Nat.zero_add, Nat.add_zero, Nat.reduceAdd, Nat.reduceBEq, Nat.reduceEqDiff, Nat.ble, BEq.rfl, Bool.and_true, Bool.and_self, cond_true, beq_self_eq_true]; rfl)) rfl ?_
  clear hl a; intro a hl
  refine d_takeL (i := 10) hl rfl (by kernel_rfl) (by kernel_rfl) (by kernel_rfl) (by kernel_rfl) (by kernel_rfl) rfl trivial (fun _ _ _ h => h) (fun w => r_nilCheck hl rfl) rfl ?_
  clear hl a; intro a hl
  refine d_takeL (i := 11) hl rfl (by kernel_rfl) (by kernel_rfl) (by kernel_rfl) (by kernel_rfl) (by kernel_rfl) rfl trivial (fun _ _ _ h => h) (fun w => r_field hl rfl fld44_0) rfl ?_
  clear hl a; intro a hl
  refine d_one (i := 12) (by kernel_rfl) rfl ?_
  try clear hM
  refine id (w_storeA hl hh trivial agg24 rfl rfl (by repeat (first | exact find_head | apply find_tail)) (by first | rfl | (simp; done)) (by first | (simp; done) | (simp; omega)) (by first | rfl | (simp; done)) (by first | (simp only [setL, List.getElem?_cons_zero, List.getElem?_cons_succ, Value.cells, List.take_zero, List.take_succ_cons, List.take_nil, List.drop_zero, List.drop_succ_cons, List.drop_nil, List.length_cons, List.length_nil, List.cons_append, List.nil_append, List.append_nil, Nat.zero_add, Nat.add_zero, Nat.reduceAdd, Nat.reduceBEq, Nat.reduceEqDiff, Nat.ble, BEq.rfl, Bool.and_true, Bool.and_self, cond_true, beq_self_eq_true]; rfl)) ?_)
  clear hh w; intro w hh
  refine d_step (fun h => absurd h (by decide)) ?_
  refine d_done (by kernel_rfl) ?_
  try clear hM
  have hl2 := hl.add (t := 1) (hl.add (t := 3) (hl.add (t := 4) (hl.add (t := 5) (hl.nil) rfl) rfl) rfl) rfl; clear hl; have hl := hl2; clear hl2
  refine then_normal ?_
  refine c_seq ?_
  refine c_seq ?_
  refine c_region ?_
  refine wl (wl_val hl rfl trivial (r_field hl rfl fld27_1) ?_)
  clear hl a; intro a hl
  refine wl (w_load hl hh rfl trivial one25 rfl (by repeat (first | exact find_head | apply find_tail)) (by first | rfl) ?_)
  clear hl a; intro a hl
  refine wl (wl_val hl rfl trivial (r_lenS hl rfl slc25) ?_)
  clear hl a; intro a hl
  refine wl (wl_val hl rfl trivial (r_move hl rfl) ?_)
  clear hl a; intro a hl
  refine w_nil ?_
  have hl2 := hl.add (t := 3) (hl.add (t := 4) (hl.add (t := 5) (hl.add (t := 33) (hl.add (t := 34) (hl.add (t := 35) (hl.nil) rfl) rfl) rfl) rfl) rfl) rfl; clear hl; have hl := hl2; clear hl2
  refine then_normal ?_
  refine wp_block ?_
  obtain ⟨KS0, hKS0, hk⟩ := (hl.add (t := 3) (hl.add (t := 4) (hl.add (t := 5) (hl.add (t := 33) (hl.add (t := 34) (hl.nil) rfl) rfl) rfl) rfl) rfl).name
  obtain ⟨HS0, hHS0, hh2⟩ := hh.nameT (A := [(k15, C jk15 34), (k18, MO (kInt .i64) (dl 0))]) (U := []) (keeps_cons (b := k15) (o' := C jk15 34) (by repeat (first | exact find_head | apply find_tail)) (by first | rfl | rfl) (keeps_cons (b := k18) (o' := MO (kInt .i64) (dl 0)) (by repeat (first | exact find_head | apply find_tail)) (by first | rfl | rfl) ((by repeat (first | exact keeps_nil | exact keeps_self | exact keeps_swap | apply keeps_mv)))))
  refine c_loop (α := NS) (fun s => n - s.i) (fun s a w => (NSI n s) ∧ Sl 105 ([(35, .int .i64 (s.i : Int))] ++ KS0) a ∧ Has _ w0 ([(k15, C (fl lc s.ab ++ s.jb) 34), (k18, MO (kInt .i64) (dl (mAt body s.i)))] ++ (HS0 ++ argE s.ab body)) w) ⟨0, [], jk15⟩ ⟨⟨Nat.zero_le _, rfl, hjk15.1⟩, hl.addE (t := 35) (hk) rfl (by first | rfl), (by rw [mAt_zero]; first | exact hh2 | (simp only [List.append_nil] at hh2; simp only [argE_nil, List.append_nil]; exact hh2))⟩ ?_
  clear hk hh2 hl hh a w
  intro s a w hI
  obtain ⟨hI, hl, hh⟩ := hI
  subst hKS0; subst hHS0
  simp only [List.cons_append, List.nil_append, List.append_nil] at hl hh
  obtain ⟨i, ab, jb⟩ := s
  obtain ⟨hi, hal, hjl⟩ := hI
  simp only at hi hal hjl hl hh
  refine c_seq ?_
  refine c_region ?_
  refine wl (wl_val hl rfl trivial (r_lss hl rfl rfl) ?_)
  clear hl a; intro a hl
  refine w_nil ?_
  have hl2 := hl.add (t := 3) (hl.add (t := 4) (hl.add (t := 5) (hl.add (t := 33) (hl.add (t := 34) (hl.add (t := 35) (hl.add (t := 36) (hl.nil) rfl) rfl) rfl) rfl) rfl) rfl) rfl; clear hl; have hl := hl2; clear hl2
  refine then_normal ?_
  refine c_seq ?_
  refine c_cond hl rfl ?_ ?_
  · intro hc0
    try simp only [decide_eq_true_eq, decide_eq_false_iff_not, Bool.not_eq_true', Bool.not_eq_false', Bool.not_eq_true, Bool.not_eq_false, Bool.and_eq_true, Bool.or_eq_true, Bool.and_eq_false_iff, Bool.or_eq_false_iff, Bool.not_not, ne_eq, Int.not_lt, Int.not_le, Decidable.not_not, beq_iff_eq, bne_iff_ne] at hc0
    obtain ⟨p, hp⟩ : ∃ p, body[i]? = some p := ⟨_, List.getElem?_eq_getElem (by rw [hU.nl]; omega)⟩
    obtain ⟨b0, hb0⟩ : ∃ b, ra[i]? = some b := ⟨_, List.getElem?_eq_getElem (by rw [hU.al]; omega)⟩
    have hb0Z := hU.a i b0 p hb0 hp
    have hq1 := fl_at lc_len hb0 rj
    simp only [lc] at hq1
    have hpl : body[ab.length]? = some p := by rw [hal]; exact hp
    refine wp_skip ?_
    refine then_normal ?_
    refine c_seq ?_
    refine wp_block ?_
    refine c_seq ?_
    refine c_region ?_
    refine wl (wl_val hl rfl trivial (r_move hl rfl) ?_)
    clear hl a; intro a hl
    refine wl (wl_val hl rfl trivial (r_indexS hl rfl rfl slc25 (by omega) (by omega) (by first | (simp only [Int.reduceToNat]; rfl) | exact toNat_add1 _ | exact toNat_add2 _ _ | exact toNat_emod _ _ | exact Int.toNat_natCast _ | rfl)) ?_)
    clear hl a; intro a hl
    first | refine wl (w_loadA hl hh rfl trivial agg34 rfl (by repeat (first | exact find_head | apply find_tail)) (by exact lc_at0 hab) (by rfl) ?_) | refine wl (w_loadRA hl hh rfl trivial agg34 rfl hmr (by simp) hq1 rfl ?_) | refine wl (wl_val hl rfl trivial (r_loadA hl rfl agg34 (hh.mem _ _ (by repeat (first | exact hmT | exact List.mem_append_right _ hmT | apply List.mem_cons_of_mem))) hrd rfl) ?_)
    clear hl a; intro a hl
    refine wl (w_alloc hl hh rfl trivial zero34 rfl ?_)
    clear hl hh a w; intro k7 a w hl hh
    refine wl (wl_val hl rfl trivial (r_assign hl rfl) ?_)
    clear hl a; intro a hl
    refine wl (w_storeA hl hh trivial agg34 rfl rfl (by repeat (first | exact find_head | apply find_tail)) (by first | rfl | (simp; done)) (by first | (simp; done) | (simp; omega)) (by first | rfl | (simp; done)) (by first | (simp only [setL, List.getElem?_cons_zero, List.getElem?_cons_succ, Value.cells, List.take_zero, List.take_succ_cons, List.take_nil, List.drop_zero, List.drop_succ_cons, List.drop_nil, List.length_cons, List.length_nil, List.cons_append, List.nil_append, List.append_nil, Nat.zero_add, Nat.add_zero, Nat.reduceAdd, Nat.reduceBEq, Nat.reduceEqDiff, Nat.ble, BEq.rfl, Bool.and_true, Bool.and_self, cond_true, beq_self_eq_true]; rfl)) ?_)
    clear hh w; intro w hh
    refine w_nil ?_
    have hl2 := hl.add (t := 3) (hl.add (t := 4) (hl.add (t := 5) (hl.add (t := 6) (hl.add (t := 7) (hl.add (t := 33) (hl.add (t := 34) (hl.add (t := 35) (hl.nil) rfl) rfl) rfl) rfl) rfl) rfl) rfl) rfl; clear hl; have hl := hl2; clear hl2
    refine then_normal ?_
    refine c_seq ?_
    refine c_region ?_
    refine wl (wl_val hl rfl trivial (r_move hl rfl) ?_)
    clear hl a; intro a hl
    refine wl (wl_val hl rfl trivial (r_field hl rfl fld34_2) ?_)
    clear hl a; intro a hl
    refine wl (wl_val hl rfl trivial (r_field hl rfl fld24_1) ?_)
    clear hl a; intro a hl
    refine wl (w_load hl hh rfl trivial one22 rfl (by repeat (first | exact find_head | apply find_tail)) (by first | rfl) ?_)
    clear hl a; intro a hl
    refine wl (w_call hl hh rfl trivial rfl cal9 rfl (ren_spec k4 k18 (mAt body i) [p.1, p.2] (some ⟨b0, 0, none⟩) 2 [(b0, C (fl tc [(p.1 : Int), (p.2 : Int)] ++ []) 30)] (.inr ⟨b0, 2, [], rfl, rfl, rfl, Nat.le_refl _, rfl⟩) (fun z hz => by rw [List.mem_singleton] at hz; subst hz; exact ⟨fresh_ne hh (hpre _ _ hb0Z) (Find.mem (by repeat (first | exact find_head | apply find_tail))), fresh_ne hh (hpre _ _ hb0Z) (Find.mem (by repeat (first | exact find_head | apply find_tail)))⟩) (hU.dn i p hp) (by simp only [List.length_cons, List.length_nil]; have := mAt_le body i (by rw [hU.nl]; omega); omega)) (by repeat (first | exact keeps_nil | apply keeps_cons (by repeat (first | exact find_head | apply find_tail)) (by first  | rfl) | exact keeps_self | exact keeps_left | exact keeps_right | exact keeps_swap | apply keeps_mv)) (fun b o m => by rw [List.mem_singleton] at m; cases m; rw [List.append_nil]; exact heap_keep hh (hpre _ _ hb0Z)) ?_)
    clear hl hh a w; intro vc Fc a w hR hl hh
    obtain ⟨ka, rfl, rfl⟩ := hR
    try simp only [List.cons_append, List.nil_append] at hh
    rw [← mAt_succ hp, map2] at hh
    simp only [List.length_cons, List.length_nil, Nat.zero_add, Nat.reduceAdd] at hl
    first | replace hh := has_mv3 (A := [_, _, _, _, _]) hh | replace hh := has_mv3 (A := [_, _, _, _]) hh | replace hh := has_mv3 (A := [_, _, _, _, _, _]) hh
    simp only [List.cons_append, List.nil_append] at hh
    rw [← argE_snoc ab body hpl] at hh
    refine wl (wl_val hl rfl trivial (r_field hl rfl fld34_2) ?_)
    clear hl a; intro a hl
    refine wl (wl_val hl rfl trivial (r_field hl rfl fld24_1) ?_)
    clear hl a; intro a hl
    refine wl (w_store hl hh trivial one22 rfl rfl (by repeat (first | exact find_head | apply find_tail)) (by first | (simp; done) | (simp; omega)) (by first | rfl | assumption | (apply Row.one; assumption)) (by first | (simp only [setL, List.getElem?_cons_zero, List.getElem?_cons_succ, Value.cells, List.take_zero, List.take_succ_cons, List.take_nil, List.drop_zero, List.drop_succ_cons, List.drop_nil, List.length_cons, List.length_nil, List.cons_append, List.nil_append, List.append_nil, Nat.zero_add, Nat.add_zero, Nat.reduceAdd, Nat.reduceBEq, Nat.reduceEqDiff, Nat.ble, BEq.rfl, Bool.and_true, Bool.and_self, cond_true, beq_self_eq_true]; rfl)) ?_)
    clear hh w; intro w hh
    refine w_nil ?_
    have hl2 := hl.add (t := 3) (hl.add (t := 4) (hl.add (t := 5) (hl.add (t := 6) (hl.add (t := 7) (hl.add (t := 33) (hl.add (t := 34) (hl.add (t := 35) (hl.nil) rfl) rfl) rfl) rfl) rfl) rfl) rfl) rfl; clear hl; have hl := hl2; clear hl2
    refine then_normal ?_
    refine c_draw [(k17, C [.string hs, .slice (some ⟨kh, 0, none⟩) 0 0, .slice (some ⟨k15, 0, none⟩) n n, .int .i64 0, .slice none 0 0] 44), (k7, C [.int .u8 0, .int .u8 0, .string es, .slice (some ⟨ka, 0, none⟩) 2 2] 34)] [6, 7] mixed hh ?_
    clear hh w; intro w hh
    have hM : Mem [(k17, C [.string hs, .slice (some ⟨kh, 0, none⟩) 0 0, .slice (some ⟨k15, 0, none⟩) n n, .int .i64 0, .slice none 0 0] 44), (k7, C [.int .u8 0, .int .u8 0, .string es, .slice (some ⟨ka, 0, none⟩) 2 2] 34)] w := (by repeat (first | exact Mem.nil | refine Mem.cons hh.mem (by repeat (first | exact find_head | apply find_tail)) ?_ | refine Mem.consR hh (by assumption) (by simp) ?_))
    refine d_take (i := 0) hl rfl (by kernel_rfl) (by kernel_rfl) (by kernel_rfl) (by kernel_rfl) (by kernel_rfl) rfl trivial (fun _ _ _ h => h) hM (fun w hC => r_move hl rfl) rfl ?_
    clear hl a; intro a hl
    refine d_take (i := 1) hl rfl (by kernel_rfl) (by kernel_rfl) (by kernel_rfl) (by kernel_rfl) (by kernel_rfl) rfl trivial (fun _ _ _ h => h) hM (fun w hC => r_nilCheck hl rfl) rfl ?_
    clear hl a; intro a hl
    refine d_take (i := 2) hl rfl (by kernel_rfl) (by kernel_rfl) (by kernel_rfl) (by kernel_rfl) (by kernel_rfl) rfl trivial (fun _ _ _ h => h) hM (fun w hC => r_field hl rfl fld44_1) rfl ?_
    clear hl a; intro a hl
    refine d_take (i := 3) hl rfl (by kernel_rfl) (by kernel_rfl) (by kernel_rfl) (by kernel_rfl) (by kernel_rfl) rfl trivial (fun _ _ _ h => h) hM (fun w hC => r_loadC hl rfl one25 hC (by repeat (first | exact find_head | apply find_tail)) (by first | rfl)) rfl ?_
    clear hl a; intro a hl
    refine d_take (i := 4) hl rfl (by kernel_rfl) (by kernel_rfl) (by kernel_rfl) (by kernel_rfl) (by kernel_rfl) rfl trivial (fun _ _ _ h => h) hM (fun w hC => r_move hl rfl) rfl ?_
    clear hl a; intro a hl
    refine d_take (i := 5) hl rfl (by kernel_rfl) (by kernel_rfl) (by kernel_rfl) (by kernel_rfl) (by kernel_rfl) rfl trivial (fun _ _ _ h => h) hM (fun w hC => r_loadCA hl rfl agg34 hC (by repeat (first | exact find_head | apply find_tail)) (by first | (simp only [List.getElem?_cons_zero, List.getElem?_cons_succ, Value.cells, List.take_zero, List.take_succ_cons, List.take_nil, List.drop_zero, List.drop_succ_cons, List.drop_nil, List.length_cons, List.length_nil, List.cons_append, List.nil_append, List.append_nil, Nat.zero_add, Nat.add_zero, Nat.reduceAdd, Nat.reduceBEq, Nat.reduceEqDiff, Nat.ble, BEq.rfl, Bool.and_true, Bool.and_self, cond_true, beq_self_eq_true]; rfl)) (by first | rfl | (simp; done))) rfl ?_
    clear hl a; intro a hl
    refine d_takeL (i := 6) hl rfl (by kernel_rfl) (by kernel_rfl) (by kernel_rfl) (by kernel_rfl) (by kernel_rfl) rfl trivial (fun _ _ _ h => h) (fun w => r_indexS hl rfl rfl slc25 (by omega) (by omega) (by first | (simp only [Int.reduceToNat]; rfl) | exact toNat_add1 _ | exact toNat_add2 _ _ | exact toNat_emod _ _ | exact Int.toNat_natCast _ | rfl)) rfl ?_
    clear hl a; intro a hl
    refine d_one (i := 7) (by kernel_rfl) rfl ?_
    try clear hM
    refine id (w_storeA hl hh trivial agg34 rfl rfl (by repeat (first | exact find_head | apply find_tail)) (by first | rfl | (simp; done)) (by rw [hjl]; omega) (by first | rfl | (simp; done)) (by exact app_lc hal hjl (by omega)) ?_)
    clear hh w; intro w hh
    refine d_step (fun h => absurd h (by decide)) ?_
    refine d_done (by kernel_rfl) ?_
    try clear hM
    have hl2 := hl.add (t := 3) (hl.add (t := 4) (hl.add (t := 5) (hl.add (t := 33) (hl.add (t := 34) (hl.add (t := 35) (hl.nil) rfl) rfl) rfl) rfl) rfl) rfl; clear hl; have hl := hl2; clear hl2
    refine blk_normal ?_
    refine then_normal ?_
    refine c_region ?_
    first | refine wl (wl_val hl rfl trivial (r_add hl rfl rfl (by simp only [Fits]; omega)) ?_) | refine wl (wl_val hl rfl trivial (r_addW hl rfl rfl) ?_)
    clear hl a; intro a hl
    refine wl (wl_val hl rfl trivial (r_move hl rfl) ?_)
    clear hl a; intro a hl
    refine w_nil ?_
    have hl2 := hl.add (t := 3) (hl.add (t := 4) (hl.add (t := 5) (hl.add (t := 33) (hl.add (t := 34) (hl.add (t := 35) (hl.nil) rfl) rfl) rfl) rfl) rfl) rfl; clear hl; have hl := hl2; clear hl2
    refine then_normal ?_
    refine ⟨⟨i + 1, ab ++ [ka], jb.drop 4⟩, (by simp only; omega), ⟨by simp only; omega, by simp [hal], app_lcl hjl (by omega)⟩, hl.addE (t := 35) (hl.addE (t := 3) (hl.addE (t := 4) (hl.addE (t := 5) (hl.addE (t := 33) (hl.addE (t := 34) (hl.nil) rfl (by first | rfl | rfl)) rfl (by first | rfl | rfl)) rfl (by first | rfl | rfl)) rfl (by first | rfl | rfl)) rfl (by first | rfl | rfl)) rfl (by first | rfl | rfl), hh.keep (by repeat (first | exact keeps_nil | apply keeps_cons (by repeat (first | exact find_head | apply find_tail)) (by first  | rfl) | exact keeps_self | exact keeps_left | exact keeps_right | exact keeps_swap | apply keeps_mv))⟩
  · intro hc0
    try simp only [decide_eq_true_eq, decide_eq_false_iff_not, Bool.not_eq_true', Bool.not_eq_false', Bool.not_eq_true, Bool.not_eq_false, Bool.and_eq_true, Bool.or_eq_true, Bool.and_eq_false_iff, Bool.or_eq_false_iff, Bool.not_not, ne_eq, Int.not_lt, Int.not_le, Decidable.not_not, beq_iff_eq, bne_iff_ne] at hc0
    have hin : n = i := by omega
    subst hin
    rw [ns_done hjl hal] at hh
    refine wp_exit ?_
    refine then_exit ?_
    refine then_exit ?_
    refine blk_exit ?_
    refine then_normal ?_
    refine c_seq ?_
    refine c_region ?_
    refine wl (wl_val hl rfl trivial (r_move hl rfl) ?_)
    clear hl a; intro a hl
    refine wl (w_load hl hh rfl trivial one55 rfl (by repeat (first | exact find_head | apply find_tail)) (by first | rfl) ?_)
    clear hl a; intro a hl
    refine wl (w_lenM Try.underlying55 hl hh rfl trivial rfl (by repeat (first | exact find_head | apply find_tail)) ?_)
    clear hl a; intro a hl
    rw [dl_len] at hl
    refine wl (wl_val hl rfl trivial (r_nilCheck hl rfl) ?_)
    clear hl a; intro a hl
    refine wl (wl_val hl rfl trivial (r_field hl rfl fld44_2) ?_)
    clear hl a; intro a hl
    refine wl (w_store hl hh trivial one3 rfl rfl (by repeat (first | exact find_head | apply find_tail)) (by first | (simp; done) | (simp; omega)) (by first | rfl | assumption | (apply Row.one; assumption)) (by first | (simp only [setL, List.getElem?_cons_zero, List.getElem?_cons_succ, Value.cells, List.take_zero, List.take_succ_cons, List.take_nil, List.drop_zero, List.drop_succ_cons, List.drop_nil, List.length_cons, List.length_nil, List.cons_append, List.nil_append, List.append_nil, Nat.zero_add, Nat.add_zero, Nat.reduceAdd, Nat.reduceBEq, Nat.reduceEqDiff, Nat.ble, BEq.rfl, Bool.and_true, Bool.and_self, cond_true, beq_self_eq_true]; rfl)) ?_)
    clear hh w; intro w hh
    refine w_nil ?_
    have hl2 := hl.add (t := 3) (hl.nil) rfl; clear hl; have hl := hl2; clear hl2
    refine then_normal ?_
    refine c_seq ?_
    refine c_region ?_
    refine wl (wl_val hl rfl trivial (r_move hl rfl) ?_)
    clear hl a; intro a hl
    refine wl (wl_val hl rfl trivial (r_move hl rfl) ?_)
    clear hl a; intro a hl
    refine wl (wl_val hl rfl trivial (r_nilCheck hl rfl) ?_)
    clear hl a; intro a hl
    refine wl (wl_val hl rfl trivial (r_field hl rfl fld44_2) ?_)
    clear hl a; intro a hl
    refine wl (w_load hl hh rfl trivial one3 rfl (by repeat (first | exact find_head | apply find_tail)) (by first | rfl) ?_)
    clear hl a; intro a hl
    refine wl (w_makeSliceN hl hh rfl trivial app42 zero45 rfl rfl (by omega) (by decide) ?_)
    clear hl hh a w; intro k65 jk65 a w hjk65 hl hh
    have hz65 := zeros_uI hjk65.1 hjk65.2
    subst hz65
    refine wl (wl_val hl rfl trivial (r_nilCheck hl rfl) ?_)
    clear hl a; intro a hl
    refine wl (wl_val hl rfl trivial (r_field hl rfl fld44_3) ?_)
    clear hl a; intro a hl
    refine wl (w_store hl hh trivial one42 rfl rfl (by repeat (first | exact find_head | apply find_tail)) (by first | (simp; done) | (simp; omega)) (by first | rfl | assumption | (apply Row.one; assumption)) (by first | (simp only [setL, List.getElem?_cons_zero, List.getElem?_cons_succ, Value.cells, List.take_zero, List.take_succ_cons, List.take_nil, List.drop_zero, List.drop_succ_cons, List.drop_nil, List.length_cons, List.length_nil, List.cons_append, List.nil_append, List.append_nil, Nat.zero_add, Nat.add_zero, Nat.reduceAdd, Nat.reduceBEq, Nat.reduceEqDiff, Nat.ble, BEq.rfl, Bool.and_true, Bool.and_self, cond_true, beq_self_eq_true]; rfl)) ?_)
    clear hh w; intro w hh
    refine w_nil ?_
    have hl2 := hl.add (t := 3) (hl.nil) rfl; clear hl; have hl := hl2; clear hl2
    refine then_normal ?_
    refine c_seq ?_
    refine c_seq ?_
    refine c_region ?_
    refine wl (wl_val hl rfl trivial (r_move hl rfl) ?_)
    clear hl a; intro a hl
    refine wl (wl_val hl rfl trivial (r_nilCheck hl rfl) ?_)
    clear hl a; intro a hl
    refine wl (wl_val hl rfl trivial (r_field hl rfl fld44_1) ?_)
    clear hl a; intro a hl
    refine wl (w_load hl hh rfl trivial one25 rfl (by repeat (first | exact find_head | apply find_tail)) (by first | rfl) ?_)
    clear hl a; intro a hl
    refine wl (wl_val hl rfl trivial (r_lenS hl rfl slc25) ?_)
    clear hl a; intro a hl
    refine wl (wl_val hl rfl trivial (r_move hl rfl) ?_)
    clear hl a; intro a hl
    refine w_nil ?_
    have hl2 := hl.add (t := 3) (hl.add (t := 71) (hl.add (t := 72) (hl.add (t := 73) (hl.nil) rfl) rfl) rfl) rfl; clear hl; have hl := hl2; clear hl2
    refine then_normal ?_
    refine wp_block ?_
    obtain ⟨KS1, hKS1, hk⟩ := (hl.add (t := 3) (hl.add (t := 71) (hl.add (t := 72) (hl.nil) rfl) rfl) rfl).name
    obtain ⟨HS1, hHS1, hh2⟩ := hh.name (keeps_cons (b := k65) (o' := C (fl uI (List.replicate (mAt body n) 0)) 45) (by repeat (first | exact find_head | apply find_tail)) (by first | rfl | rfl) (keeps_nil))
    refine c_loop (α := Nat × List Int) (fun s => n - s.1) (fun s a w => (s.1 ≤ n ∧ s.2 = ocA body (mAt body n) s.1) ∧ Sl 105 ([(73, .int .i64 (s.1 : Int))] ++ KS1) a ∧ Has _ w0 ([(k65, C (fl uI s.2) 45)] ++ HS1) w) (0, List.replicate (mAt body n) 0) ⟨⟨Nat.zero_le _, rfl⟩, hl.addE (t := 73) (hk) rfl (by first | rfl), hh2⟩ ?_
    clear hk hh2 hl hh a w
    intro s a w hI
    obtain ⟨⟨hi9, hoc⟩, hl, hh⟩ := hI
    subst hKS1; subst hHS1
    simp only [List.cons_append, List.nil_append, List.append_nil] at hl hh
    obtain ⟨i, oc⟩ := s
    simp only at hi9 hoc hl hh
    have hocl : oc.length = mAt body n := by rw [hoc]; exact ocA_len _ _ _
    refine c_seq ?_
    refine c_region ?_
    refine wl (wl_val hl rfl trivial (r_lss hl rfl rfl) ?_)
    clear hl a; intro a hl
    refine w_nil ?_
    have hl2 := hl.add (t := 3) (hl.add (t := 71) (hl.add (t := 72) (hl.add (t := 73) (hl.add (t := 74) (hl.nil) rfl) rfl) rfl) rfl) rfl; clear hl; have hl := hl2; clear hl2
    refine then_normal ?_
    refine c_seq ?_
    refine c_cond hl rfl ?_ ?_
    · intro hc1
      try simp only [decide_eq_true_eq, decide_eq_false_iff_not, Bool.not_eq_true', Bool.not_eq_false', Bool.not_eq_true, Bool.not_eq_false, Bool.and_eq_true, Bool.or_eq_true, Bool.and_eq_false_iff, Bool.or_eq_false_iff, Bool.not_not, ne_eq, Int.not_lt, Int.not_le, Decidable.not_not, beq_iff_eq, bne_iff_ne] at hc1
      obtain ⟨p, hp⟩ : ∃ p, body[i]? = some p := ⟨_, List.getElem?_eq_getElem (by rw [hU.nl]; omega)⟩
      obtain ⟨ba, hba⟩ : ∃ b, ab[i]? = some b := ⟨_, List.getElem?_eq_getElem (by omega)⟩
      have hmT := argE_mem hba hp
      have hab := hba
      have hvb := hU.vb i p hp
      refine wp_skip ?_
      refine then_normal ?_
      refine c_seq ?_
      refine wp_block ?_
      refine c_seq ?_
      refine c_region ?_
      refine wl (wl_val hl rfl trivial (r_move hl rfl) ?_)
      clear hl a; intro a hl
      refine wl (wl_val hl rfl trivial (r_indexS hl rfl rfl slc25 (by omega) (by omega) (by first | (simp only [Int.reduceToNat]; rfl) | exact toNat_add1 _ | exact toNat_add2 _ _ | exact toNat_emod _ _ | exact Int.toNat_natCast _ | rfl)) ?_)
      clear hl a; intro a hl
      first | refine wl (w_loadA hl hh rfl trivial agg34 rfl (by repeat (first | exact find_head | apply find_tail)) (by exact lc_at0 hab) (by rfl) ?_) | refine wl (w_loadRA hl hh rfl trivial agg34 rfl hmr (by simp) hq1 rfl ?_) | refine wl (wl_val hl rfl trivial (r_loadA hl rfl agg34 (hh.mem _ _ (by repeat (first | exact hmT | exact List.mem_append_right _ hmT | apply List.mem_cons_of_mem))) hrd rfl) ?_)
      clear hl a; intro a hl
      refine wl (w_alloc hl hh rfl trivial zero34 rfl ?_)
      clear hl hh a w; intro k9 a w hl hh
      refine wl (wl_val hl rfl trivial (r_assign hl rfl) ?_)
      clear hl a; intro a hl
      refine wl (w_storeA hl hh trivial agg34 rfl rfl (by repeat (first | exact find_head | apply find_tail)) (by first | rfl | (simp; done)) (by first | (simp; done) | (simp; omega)) (by first | rfl | (simp; done)) (by first | (simp only [setL, List.getElem?_cons_zero, List.getElem?_cons_succ, Value.cells, List.take_zero, List.take_succ_cons, List.take_nil, List.drop_zero, List.drop_succ_cons, List.drop_nil, List.length_cons, List.length_nil, List.cons_append, List.nil_append, List.append_nil, Nat.zero_add, Nat.add_zero, Nat.reduceAdd, Nat.reduceBEq, Nat.reduceEqDiff, Nat.ble, BEq.rfl, Bool.and_true, Bool.and_self, cond_true, beq_self_eq_true]; rfl)) ?_)
      clear hh w; intro w hh
      refine w_nil ?_
      have hl2 := hl.add (t := 3) (hl.add (t := 8) (hl.add (t := 9) (hl.add (t := 71) (hl.add (t := 72) (hl.add (t := 73) (hl.nil) rfl) rfl) rfl) rfl) rfl) rfl; clear hl; have hl := hl2; clear hl2
      refine then_normal ?_
      refine c_seq ?_
      refine c_region ?_
      refine wl (wl_val hl rfl trivial (r_field hl rfl fld34_2) ?_)
      clear hl a; intro a hl
      refine wl (wl_val hl rfl trivial (r_field hl rfl fld24_1) ?_)
      clear hl a; intro a hl
      refine wl (w_load hl hh rfl trivial one22 rfl (by repeat (first | exact find_head | apply find_tail)) (by first | rfl) ?_)
      clear hl a; intro a hl
      refine wl (wl_val hl rfl trivial (r_lenS hl rfl slc22) ?_)
      clear hl a; intro a hl
      refine wl (wl_val hl rfl trivial (r_move hl rfl) ?_)
      clear hl a; intro a hl
      refine w_nil ?_
      have hl2 := hl.add (t := 3) (hl.add (t := 8) (hl.add (t := 71) (hl.add (t := 72) (hl.add (t := 73) (hl.add (t := 80) (hl.add (t := 81) (hl.add (t := 82) (hl.nil) rfl) rfl) rfl) rfl) rfl) rfl) rfl) rfl; clear hl; have hl := hl2; clear hl2
      refine then_normal ?_
      refine wp_block ?_
      obtain ⟨KS2, hKS2, hk⟩ := (hl.add (t := 3) (hl.add (t := 8) (hl.add (t := 71) (hl.add (t := 72) (hl.add (t := 73) (hl.add (t := 80) (hl.add (t := 81) (hl.nil) rfl) rfl) rfl) rfl) rfl) rfl) rfl).name
      obtain ⟨HS2, hHS2, hh2⟩ := hh.name (keeps_cons (b := k65) (o' := C (fl uI oc) 45) (by repeat (first | exact find_head | apply find_tail)) (by first | rfl | rfl) (keeps_nil))
      refine c_loop (α := Nat × List Int) (fun s => 2 - s.1) (fun s a w => (OQ oc i p (mAt body n) s) ∧ Sl 105 ([(82, .int .i64 (s.1 : Int))] ++ KS2) a ∧ Has _ w0 ([(k65, C (fl uI s.2) 45)] ++ HS2) w) (0, oc) ⟨⟨Nat.zero_le _, hocl, fun _ => rfl, (fun h => by cases h), (fun h => by cases h)⟩, hl.addE (t := 82) (hk) rfl (by first | rfl), hh2⟩ ?_
      clear hk hh2 hl hh a w
      intro s a w hI
      obtain ⟨hQ, hl, hh⟩ := hI
      subst hKS2; subst hHS2
      simp only [List.cons_append, List.nil_append, List.append_nil] at hl hh
      obtain ⟨q, oq⟩ := s
      have hq2 := hQ.hq
      have hql := hQ.ln
      simp only at hq2 hql hl hh
      refine c_seq ?_
      refine c_region ?_
      refine wl (wl_val hl rfl trivial (r_lss hl rfl rfl) ?_)
      clear hl a; intro a hl
      refine w_nil ?_
      have hl2 := hl.add (t := 3) (hl.add (t := 8) (hl.add (t := 71) (hl.add (t := 72) (hl.add (t := 73) (hl.add (t := 80) (hl.add (t := 81) (hl.add (t := 82) (hl.add (t := 83) (hl.nil) rfl) rfl) rfl) rfl) rfl) rfl) rfl) rfl) rfl; clear hl; have hl := hl2; clear hl2
      refine then_normal ?_
      refine c_seq ?_
      refine c_cond hl rfl ?_ ?_
      · intro hc2
        try simp only [decide_eq_true_eq, decide_eq_false_iff_not, Bool.not_eq_true', Bool.not_eq_false', Bool.not_eq_true, Bool.not_eq_false, Bool.and_eq_true, Bool.or_eq_true, Bool.and_eq_false_iff, Bool.or_eq_false_iff, Bool.not_not, ne_eq, Int.not_lt, Int.not_le, Decidable.not_not, beq_iff_eq, bne_iff_ne] at hc2
        obtain ⟨v, hv⟩ := two_ex (p := p) (q := q) (by omega)
        have hrd := tc2_at hv
        simp only [tc] at hrd
        have hvl : v < mAt body n := by rcases two_at hv (by omega) with ⟨_, rfl⟩ | ⟨_, rfl⟩; exact hvb.1; exact hvb.2
        obtain ⟨o, ho⟩ : ∃ o, oq[v]? = some o := ⟨_, List.getElem?_eq_getElem (by omega)⟩
        refine wp_skip ?_
        refine then_normal ?_
        refine c_seq ?_
        refine wp_block ?_
        refine c_seq ?_
        refine c_region ?_
        refine wl (wl_val hl rfl trivial (r_indexS hl rfl rfl slc22 (by omega) (by omega) (by first | (simp only [Int.reduceToNat]; rfl) | exact toNat_add1 _ | exact toNat_add2 _ _ | exact toNat_emod _ _ | exact Int.toNat_natCast _ | rfl)) ?_)
        clear hl a; intro a hl
        first | refine wl (w_loadA hl hh rfl trivial agg30 rfl (by repeat (first | exact find_head | apply find_tail)) (by first | (simp only [List.getElem?_cons_zero, List.getElem?_cons_succ, Value.cells, List.take_zero, List.take_succ_cons, List.take_nil, List.drop_zero, List.drop_succ_cons, List.drop_nil, List.length_cons, List.length_nil, List.cons_append, List.nil_append, List.append_nil, Nat.zero_add, Nat.add_zero, Nat.reduceAdd, Nat.reduceBEq, Nat.reduceEqDiff, Nat.ble, BEq.rfl, Bool.and_true, Bool.and_self, cond_true, beq_self_eq_true]; rfl)) (by first | rfl | (simp; done)) ?_) | refine wl (w_loadRA hl hh rfl trivial agg30 rfl hmr (by simp) hq1 rfl ?_) | refine wl (wl_val hl rfl trivial (r_loadA hl rfl agg30 (hh.mem _ _ (by repeat (first | exact hmT | exact List.mem_append_right _ hmT | apply List.mem_cons_of_mem))) hrd rfl) ?_)
        clear hl a; intro a hl
        refine wl (w_alloc hl hh rfl trivial zero30 rfl ?_)
        clear hl hh a w; intro k11 a w hl hh
        refine wl (w_storeA hl hh trivial agg30 rfl rfl (by repeat (first | exact find_head | apply find_tail)) (by first | rfl | (simp; done)) (by first | (simp; done) | (simp; omega)) (by first | rfl | (simp; done)) (by first | (simp only [setL, List.getElem?_cons_zero, List.getElem?_cons_succ, Value.cells, List.take_zero, List.take_succ_cons, List.take_nil, List.drop_zero, List.drop_succ_cons, List.drop_nil, List.length_cons, List.length_nil, List.cons_append, List.nil_append, List.append_nil, Nat.zero_add, Nat.add_zero, Nat.reduceAdd, Nat.reduceBEq, Nat.reduceEqDiff, Nat.ble, BEq.rfl, Bool.and_true, Bool.and_self, cond_true, beq_self_eq_true]; rfl)) ?_)
        clear hh w; intro w hh
        refine w_nil ?_
        have hl2 := hl.add (t := 3) (hl.add (t := 8) (hl.add (t := 11) (hl.add (t := 71) (hl.add (t := 72) (hl.add (t := 73) (hl.add (t := 80) (hl.add (t := 81) (hl.add (t := 82) (hl.nil) rfl) rfl) rfl) rfl) rfl) rfl) rfl) rfl) rfl; clear hl; have hl := hl2; clear hl2
        refine then_normal ?_
        refine c_seq ?_
        refine c_region ?_
        refine wl (wl_val hl rfl trivial (r_field hl rfl fld30_0) ?_)
        clear hl a; intro a hl
        refine wl (w_load hl hh rfl trivial one28 rfl (by repeat (first | exact find_head | apply find_tail)) (by first | rfl) ?_)
        clear hl a; intro a hl
        refine wl (wl_val hl rfl trivial (r_eql hl rfl rfl) ?_)
        clear hl a; intro a hl
        refine w_nil ?_
        have hl2 := hl.add (t := 3) (hl.add (t := 8) (hl.add (t := 11) (hl.add (t := 71) (hl.add (t := 72) (hl.add (t := 73) (hl.add (t := 80) (hl.add (t := 81) (hl.add (t := 82) (hl.add (t := 88) (hl.nil) rfl) rfl) rfl) rfl) rfl) rfl) rfl) rfl) rfl) rfl; clear hl; have hl := hl2; clear hl2
        refine then_normal ?_
        refine c_cond hl rfl ?_ ?_
        · intro hc3
          try simp only [decide_eq_true_eq, decide_eq_false_iff_not, Bool.not_eq_true', Bool.not_eq_false', Bool.not_eq_true, Bool.not_eq_false, Bool.and_eq_true, Bool.or_eq_true, Bool.and_eq_false_iff, Bool.or_eq_false_iff, Bool.not_not, ne_eq, Int.not_lt, Int.not_le, Decidable.not_not, beq_iff_eq, bne_iff_ne] at hc3
          refine c_draw [(k17, C [.string hs, .slice (some ⟨kh, 0, none⟩) 0 0, .slice (some ⟨k15, 0, none⟩) n n, .int .i64 (mAt body n : Int), .slice (some ⟨k65, 0, none⟩) (mAt body n) (mAt body n)] 44), (k65, C (fl uI oq) 45), (k11, C [.int .u8 0, .int .i64 (v : Int), .int .i64 0, .string ⟨#[]⟩] 30)] [11, 12, 13] mixed hh ?_
          clear hh w; intro w hh
          have hM : Mem [(k17, C [.string hs, .slice (some ⟨kh, 0, none⟩) 0 0, .slice (some ⟨k15, 0, none⟩) n n, .int .i64 (mAt body n : Int), .slice (some ⟨k65, 0, none⟩) (mAt body n) (mAt body n)] 44), (k65, C (fl uI oq) 45), (k11, C [.int .u8 0, .int .i64 (v : Int), .int .i64 0, .string ⟨#[]⟩] 30)] w := (by repeat (first | exact Mem.nil | refine Mem.cons hh.mem (by repeat (first | exact find_head | apply find_tail)) ?_ | refine Mem.consR hh (by assumption) (by simp) ?_))
          refine d_take (i := 0) hl rfl (by kernel_rfl) (by kernel_rfl) (by kernel_rfl) (by kernel_rfl) (by kernel_rfl) rfl trivial (fun _ _ _ h => h) hM (fun w hC => r_move hl rfl) rfl ?_
          clear hl a; intro a hl
          refine d_take (i := 1) hl rfl (by kernel_rfl) (by kernel_rfl) (by kernel_rfl) (by kernel_rfl) (by kernel_rfl) rfl trivial (fun _ _ _ h => h) hM (fun w hC => r_nilCheck hl rfl) rfl ?_
          clear hl a; intro a hl
          refine d_take (i := 2) hl rfl (by kernel_rfl) (by kernel_rfl) (by kernel_rfl) (by kernel_rfl) (by kernel_rfl) rfl trivial (fun _ _ _ h => h) hM (fun w hC => r_field hl rfl fld44_3) rfl ?_
          clear hl a; intro a hl
          refine d_take (i := 3) hl rfl (by kernel_rfl) (by kernel_rfl) (by kernel_rfl) (by kernel_rfl) (by kernel_rfl) rfl trivial (fun _ _ _ h => h) hM (fun w hC => r_loadC hl rfl one42 hC (by repeat (first | exact find_head | apply find_tail)) (by first | rfl)) rfl ?_
          clear hl a; intro a hl
          refine d_take (i := 4) hl rfl (by kernel_rfl) (by kernel_rfl) (by kernel_rfl) (by kernel_rfl) (by kernel_rfl) rfl trivial (fun _ _ _ h => h) hM (fun w hC => r_field hl rfl fld30_1) rfl ?_
          clear hl a; intro a hl
          refine d_take (i := 5) hl rfl (by kernel_rfl) (by kernel_rfl) (by kernel_rfl) (by kernel_rfl) (by kernel_rfl) rfl trivial (fun _ _ _ h => h) hM (fun w hC => r_loadC hl rfl one3 hC (by repeat (first | exact find_head | apply find_tail)) (by first | rfl)) rfl ?_
          clear hl a; intro a hl
          refine d_take (i := 6) hl rfl (by kernel_rfl) (by kernel_rfl) (by kernel_rfl) (by kernel_rfl) (by kernel_rfl) rfl trivial (fun _ _ _ h => h) hM (fun w hC => r_indexS hl rfl rfl slc42 (by omega) (by omega) (by first | (simp only [Int.reduceToNat]; rfl) | exact toNat_add1 _ | exact toNat_add2 _ _ | exact toNat_emod _ _ | exact Int.toNat_natCast _ | rfl)) rfl ?_
          clear hl a; intro a hl
          refine d_take (i := 7) hl rfl (by kernel_rfl) (by kernel_rfl) (by kernel_rfl) (by kernel_rfl) (by kernel_rfl) rfl trivial (fun _ _ _ h => h) hM (fun w hC => r_loadC hl rfl one45 hC (by repeat (first | exact find_head | apply find_tail)) (by exact uI_at ho)) rfl ?_
          clear hl a; intro a hl
          refine d_take (i := 8) hl rfl (by kernel_rfl) (by kernel_rfl) (by kernel_rfl) (by kernel_rfl) (by kernel_rfl) rfl trivial (fun _ _ _ h => h) hM (fun w hC => r_move hl rfl) rfl ?_
          clear hl a; intro a hl
          first | refine d_take (i := 9) hl rfl (by kernel_rfl) (by kernel_rfl) (by kernel_rfl) (by kernel_rfl) (by kernel_rfl) rfl trivial (fun _ _ _ h => h) hM (fun w hC => r_conv hl rfl Try.underlying3 Try.underlying58 (by simp only [Fits]; omega)) rfl ?_ | refine d_take (i := 9) hl rfl (by kernel_rfl) (by kernel_rfl) (by kernel_rfl) (by kernel_rfl) (by kernel_rfl) rfl trivial (fun _ _ _ h => h) hM (fun w hC => r_convW hl rfl Try.underlying3 Try.underlying58) rfl ?_
          clear hl a; intro a hl
          refine d_take (i := 10) hl rfl (by kernel_rfl) (by kernel_rfl) (by kernel_rfl) (by kernel_rfl) (by kernel_rfl) rfl trivial (fun _ _ _ h => h) hM (fun w hC => r_shl hl rfl rfl (by omega)) rfl ?_
          clear hl a; intro a hl
          rw [sh64_eq] at hl
          refine d_takeL (i := 11) hl rfl (by kernel_rfl) (by kernel_rfl) (by kernel_rfl) (by kernel_rfl) (by kernel_rfl) rfl trivial (fun _ _ _ h => h) (fun w => r_or hl rfl rfl) rfl ?_
          clear hl a; intro a hl
          refine d_takeL (i := 12) hl rfl (by kernel_rfl) (by kernel_rfl) (by kernel_rfl) (by kernel_rfl) (by kernel_rfl) rfl trivial (fun _ _ _ h => h) (fun w => r_indexS hl rfl rfl slc42 (by omega) (by omega) (by first | (simp only [Int.reduceToNat]; rfl) | exact toNat_add1 _ | exact toNat_add2 _ _ | exact toNat_emod _ _ | exact Int.toNat_natCast _ | rfl)) rfl ?_
          clear hl a; intro a hl
          refine d_one (i := 13) (by kernel_rfl) rfl ?_
          try clear hM
          refine id (w_store hl hh trivial one45 rfl rfl (by repeat (first | exact find_head | apply find_tail)) (by rw [fl_len uI_len]; omega) (by first | rfl | assumption | (apply Row.one; assumption)) (by exact uI_set (by omega)) ?_)
          clear hh w; intro w hh
          refine d_step (fun h => absurd h (by decide)) ?_
          refine d_done (by kernel_rfl) ?_
          try clear hM
          have hl2 := hl.add (t := 3) (hl.add (t := 8) (hl.add (t := 71) (hl.add (t := 72) (hl.add (t := 73) (hl.add (t := 80) (hl.add (t := 81) (hl.add (t := 82) (hl.nil) rfl) rfl) rfl) rfl) rfl) rfl) rfl) rfl; clear hl; have hl := hl2; clear hl2
          refine blk_normal ?_
          refine then_normal ?_
          refine c_region ?_
          first | refine wl (wl_val hl rfl trivial (r_add hl rfl rfl (by simp only [Fits]; omega)) ?_) | refine wl (wl_val hl rfl trivial (r_addW hl rfl rfl) ?_)
          clear hl a; intro a hl
          refine wl (wl_val hl rfl trivial (r_move hl rfl) ?_)
          clear hl a; intro a hl
          refine w_nil ?_
          have hl2 := hl.add (t := 3) (hl.add (t := 8) (hl.add (t := 71) (hl.add (t := 72) (hl.add (t := 73) (hl.add (t := 80) (hl.add (t := 81) (hl.add (t := 82) (hl.nil) rfl) rfl) rfl) rfl) rfl) rfl) rfl) rfl; clear hl; have hl := hl2; clear hl2
          refine then_normal ?_
          refine ⟨(q + 1, oq.set v (bitsOf .or .u64 o (sh64 i))), (by simp only; omega), hQ.next (by omega) hv ho, hl.addE (t := 82) (hl.addE (t := 3) (hl.addE (t := 8) (hl.addE (t := 71) (hl.addE (t := 72) (hl.addE (t := 73) (hl.addE (t := 80) (hl.addE (t := 81) (hl.nil) rfl (by first | rfl | rfl)) rfl (by first | rfl | rfl)) rfl (by first | rfl | rfl)) rfl (by first | rfl | rfl)) rfl (by first | rfl | rfl)) rfl (by first | rfl | rfl)) rfl (by first | rfl | rfl)) rfl (by first | rfl | rfl), hh.keep (by repeat (first | exact keeps_nil | apply keeps_cons (by repeat (first | exact find_head | apply find_tail)) (by first  | rfl) | exact keeps_self | exact keeps_left | exact keeps_right | exact keeps_swap | apply keeps_mv))⟩
        · intro hc3
          try simp only [decide_eq_true_eq, decide_eq_false_iff_not, Bool.not_eq_true', Bool.not_eq_false', Bool.not_eq_true, Bool.not_eq_false, Bool.and_eq_true, Bool.or_eq_true, Bool.and_eq_false_iff, Bool.or_eq_false_iff, Bool.not_not, ne_eq, Int.not_lt, Int.not_le, Decidable.not_not, beq_iff_eq, bne_iff_ne] at hc3
          exfalso; first | contradiction | omega
      · intro hc2
        try simp only [decide_eq_true_eq, decide_eq_false_iff_not, Bool.not_eq_true', Bool.not_eq_false', Bool.not_eq_true, Bool.not_eq_false, Bool.and_eq_true, Bool.or_eq_true, Bool.and_eq_false_iff, Bool.or_eq_false_iff, Bool.not_not, ne_eq, Int.not_lt, Int.not_le, Decidable.not_not, beq_iff_eq, bne_iff_ne] at hc2
        skip
        refine wp_exit ?_
        refine then_exit ?_
        refine then_exit ?_
        refine blk_exit ?_
        refine blk_normal ?_
        refine then_normal ?_
        refine c_region ?_
        first | refine wl (wl_val hl rfl trivial (r_add hl rfl rfl (by simp only [Fits]; omega)) ?_) | refine wl (wl_val hl rfl trivial (r_addW hl rfl rfl) ?_)
        clear hl a; intro a hl
        refine wl (wl_val hl rfl trivial (r_move hl rfl) ?_)
        clear hl a; intro a hl
        refine w_nil ?_
        have hl2 := hl.add (t := 3) (hl.add (t := 71) (hl.add (t := 72) (hl.add (t := 73) (hl.nil) rfl) rfl) rfl) rfl; clear hl; have hl := hl2; clear hl2
        refine then_normal ?_
        refine ⟨(i + 1, oq), (by simp only; omega), ⟨by simp only; omega, by rw [ocA_succ hp, ← hoc]; exact hQ.e2 (by simp only; omega)⟩, hl.addE (t := 73) (hl.addE (t := 3) (hl.addE (t := 71) (hl.addE (t := 72) (hl.nil) rfl (by first | rfl | rfl)) rfl (by first | rfl | rfl)) rfl (by first | rfl | rfl)) rfl (by first | rfl | rfl), hh.keep (by repeat (first | exact keeps_nil | apply keeps_cons (by repeat (first | exact find_head | apply find_tail)) (by first  | rfl) | exact keeps_self | exact keeps_left | exact keeps_right | exact keeps_swap | apply keeps_mv))⟩
    · intro hc1
      try simp only [decide_eq_true_eq, decide_eq_false_iff_not, Bool.not_eq_true', Bool.not_eq_false', Bool.not_eq_true, Bool.not_eq_false, Bool.and_eq_true, Bool.or_eq_true, Bool.and_eq_false_iff, Bool.or_eq_false_iff, Bool.not_not, ne_eq, Int.not_lt, Int.not_le, Decidable.not_not, beq_iff_eq, bne_iff_ne] at hc1
      have hin2 : n = i := by omega
      refine wp_exit ?_
      refine then_exit ?_
      refine then_exit ?_
      refine blk_exit ?_
      refine then_normal ?_
      refine c_seq ?_
      refine c_region ?_
      refine wl (wl_val hl rfl trivial (r_move hl rfl) ?_)
      clear hl a; intro a hl
      refine wl (wl_val hl rfl trivial (r_assign hl rfl) ?_)
      clear hl a; intro a hl
      refine w_nil ?_
      have hl2 := hl.add (t := 2) (hl.nil) rfl; clear hl; have hl := hl2; clear hl2
      refine then_normal ?_
      refine wp_ret ?_
      refine f_ret1 (F' := [(k17, C [.string hs, .slice (some ⟨kh, 0, none⟩) 0 0, .slice (some ⟨k15, 0, none⟩) n n, .int .i64 (mAt body n : Int), .slice (some ⟨k65, 0, none⟩) (mAt body n) (mAt body n)] 44), (k15, C (fl lc ab) 34), (k65, C (fl uI oc) 45), (kh, C [] 30)] ++ argE ab body) hl hh rfl rfl (by repeat (first | exact keeps_nil | apply keeps_cons (by repeat (first | exact find_head | apply find_tail)) (by first  | rfl) | exact keeps_self | exact keeps_left | exact keeps_right | exact keeps_swap | apply keeps_mv)) ?_
      subst hin2
      exact ⟨⟨_, _, body, oc, k17, k15, k65, ab, hs, .slice (some ⟨kh, 0, none⟩) 0 0⟩, kh, _, rfl, rfl, rfl, rfl, hoc, rfl, by simp, ⟨by simp, by simp, fun j b p h1 h2 => by have := argE_mem h1 h2; simp [this], by simp, hU.nl, hal, hocl, hU.vb, hU.n64, by show mAt body _ ≤ 900; omega⟩, rfl⟩
end Go.Proofs.Qxb6500915a

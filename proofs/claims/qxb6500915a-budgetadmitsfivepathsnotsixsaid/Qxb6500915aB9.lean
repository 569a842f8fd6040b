import Derived.Test.Qxb6500915aB8
import Derived.Test.Qxb6500915aC0
namespace Go.Proofs.Qxb6500915a
open Go.Eng
set_option linter.unusedVariables false
set_option linter.unusedSimpArgs false
theorem zero27 : zeroOk Try.prog 27 (.agg #[(.string ⟨#[]⟩), (.slice none 0 0), (.slice none 0 0)]) := by unfold zeroOk; kernel_rfl
theorem agg27 : aggOk Try.prog 27 3 = true := by kernel_rfl
theorem cal5 : callable Try.prog 5 = true := by kernel_rfl
theorem bld27 : buildOk Try.prog 27 [(0, 2), (2, 1)] = true := by kernel_rfl
theorem cal7 : callable Try.prog 7 = true := by kernel_rfl
theorem cal8 : callable Try.prog 8 = true := by kernel_rfl
theorem zeros_iI {l : List Value} {n : Nat} (h1 : l.length = n * 1) (h2 : ∀ j, j < n * 1 → l[j]? = some ((Value.int .i64 0).cells[j % 1]!)) : l = fl iI (List.replicate n 0) := by
  have hl : (fl iI (List.replicate n 0)).length = n := by rw [fl_len iI_len, List.length_replicate]; omega
  apply List.ext_getElem?
  intro j
  by_cases hj : j < n
  · have h3 := fl_get1 (f := iI) (g := .int .i64) (fun _ => rfl) (l := List.replicate n 0) (i := j) (x := 0) (by rw [List.getElem?_replicate, if_pos hj]) []
    rw [Nat.zero_add, Nat.mul_one, List.append_nil] at h3
    rw [h3, h2 j (by omega), Nat.mod_one]
    rfl
  · rw [List.getElem?_eq_none (by omega), List.getElem?_eq_none (by omega)]
/-- the first i numbers are taken away -/
def nmI (vs i : Nat) : List Int := List.replicate i (-1) ++ List.replicate (vs - i) 0
theorem nm_zero (vs : Nat) : nmI vs 0 = List.replicate vs 0 := by simp [nmI]
theorem nm_full (vs : Nat) : nmI vs vs = List.replicate vs (-1) := by simp [nmI]
theorem nm_len {vs i : Nat} (h : i ≤ vs) : (nmI vs i).length = vs := by simp [nmI]; omega
theorem nm_set {vs i : Nat} (h : i < vs) : setL (fl iI (nmI vs i)) (0 + i * 1) [.int .i64 (-1)] = fl iI (nmI vs (i + 1)) := by
  rw [show [Value.int .i64 (-1)] = iI (-1) from rfl, ← List.append_nil (fl iI (nmI vs i)), fl_set iI_len (nmI vs i) (-1) [] i (by rw [nm_len (by omega)]; omega)]
  rw [List.append_nil]
  congr 1
  unfold nmI
  obtain ⟨d, hd⟩ : ∃ d, vs - i = d + 1 := ⟨vs - i - 1, by omega⟩
  rw [show vs - (i + 1) = d by omega, hd, List.replicate_succ, List.replicate_succ', List.append_assoc]
  rw [List.set_append_right _ _ (by simp)]
  simp
theorem has_t1 {D : List Nat} {w0 w : World} {x : Nat × Obj} {E A : List (Nat × Obj)} (h : Has D w0 (x :: (E ++ A)) w) : Has D w0 (x :: (A ++ E)) w := h.perm (List.Perm.cons _ List.perm_append_comm)
theorem has_fin {D : List Nat} {w0 w : World} {Fc A Tz E2 : List (Nat × Obj)} (h : Has D w0 (Fc ++ (A ++ (Tz ++ E2))) w) : Has D w0 (A ++ (E2 ++ (Tz ++ Fc))) w := by
  refine h.perm ?_
  refine List.perm_append_comm.trans ?_
  rw [List.append_assoc]
  refine List.Perm.append_left A ?_
  rw [← List.append_assoc]
  exact List.Perm.append_right Fc List.perm_append_comm
theorem own_ne {D : List Nat} {w0 w : World} {F : List (Nat × Obj)} (hh : Has D w0 F w) {b1 b2 : Nat} {l1 l2 : List Value} {t1 t2 : TypeId} (h1 : (b1, C l1 t1) ∈ F) (h2 : (b2, C l2 t2) ∈ F) (ht : t1 ≠ t2) : b1 ≠ b2 := blk_ne (Z := F) (fun b o m => hh.mem b o m) h1 h2 ht
theorem FrI.mono {X : SX} {Z Z' : List (Nat × Obj)} {bs : List SB} {fb : Nat} {jf : List Value} (h : FrI X Z bs fb jf) (hz : ∀ x, x ∈ Z → x ∈ Z') : FrI X Z' bs fb jf := ⟨hz _ h.f, fun s hs => hz _ (h.blk s hs), h.ok, h.ne⟩
theorem fr_next {X : SX} {T En Es : List (Nat × Obj)} {nbs : List SB} {fb : Nat} {jf : List Value} {w : World} (hm : Mem (T ++ (En ++ Es)) w) (hE : En = [(fb, C (fl SB.cells nbs ++ jf) 47)]) (hblk : ∀ b, b ∈ nbs → b.blk ∈ Es) (hok : ∀ b, b ∈ nbs → b.ok X.vs) : FrI X (T ++ (En ++ Es)) nbs fb jf := by
  have hf : (fb, C (fl SB.cells nbs ++ jf) 47) ∈ T ++ (En ++ Es) := List.mem_append_right _ (List.mem_append_left _ (by rw [hE]; simp))
  have hb : ∀ b, b ∈ nbs → b.blk ∈ T ++ (En ++ Es) := fun b h => List.mem_append_right _ (List.mem_append_right _ (hblk b h))
  exact ⟨hf, hb, hok, fun s hs => blk_ne hm (show (s.nb, C (fl iI s.num ++ s.jn) 3) ∈ _ from hb s hs) hf (by decide)⟩
def s0B (vs k : Nat) : SB := ⟨0, List.replicate vs (-1), 0, k, vs, []⟩
theorem s0_core (vs k : Nat) : [s0B vs k].map SB.core = [(0, List.replicate vs (-1), 0)] := rfl
theorem fr_start {X : SX} {T : List (Nat × Obj)} {k55 k22 : Nat} {w : World} (hm : Mem T w) (h1 : (k55, C [.int .u64 0, .slice (some ⟨k22, 0, none⟩) X.vs X.vs, .int .i64 0] 47) ∈ T) (h2' : (k22, C (fl iI (List.replicate X.vs (-1))) 3) ∈ T) : FrI X T [s0B X.vs k22] k55 [] := by
  have h2 : (k22, C (fl iI (List.replicate X.vs (-1)) ++ []) 3) ∈ T := by rw [List.append_nil]; exact h2'
  have hf : (k55, C (fl SB.cells [s0B X.vs k22] ++ []) 47) ∈ T := by
    have e : fl SB.cells [s0B X.vs k22] ++ [] = [.int .u64 0, .slice (some ⟨k22, 0, none⟩) X.vs X.vs, .int .i64 0] := by simp [fl, SB.cells, s0B]
    rw [e]; exact h1
  have hs : ∀ s, s ∈ [s0B X.vs k22] → s = s0B X.vs k22 := fun s h => List.mem_singleton.1 h
  refine ⟨hf, fun s h => ?_, fun s h => ?_, fun s h => ?_⟩
  · rw [hs s h]; exact h2
  · rw [hs s h]
    exact ⟨by simp [s0B], ⟨Int.le_refl _, by show (0 : Int) ≤ 900; decide⟩, fun j x hx => by
      have := List.mem_of_getElem? hx
      have : x = -1 := (List.mem_replicate.1 this).2
      rw [this]; show (-1 : Int) < 0; decide⟩
  · rw [hs s h]; exact blk_ne hm h2 hf (by decide)
theorem frj_start {X : SX} {k22 : Nat} : FrJ [s0B X.vs k22] 0 := by
  refine ⟨fun s h => ?_, fun s h => ?_⟩
  · rw [List.mem_singleton.1 h]; show (0 : Int) ≤ 2 * ((0 : Nat) : Int); decide
  · rw [List.mem_singleton.1 h]
    refine ⟨?_, ?_⟩
    · show (fl iI (List.replicate X.vs (-1)) ++ []).length = X.vs * 1
      rw [List.append_nil, fl_len iI_len, List.length_replicate]
    · show (List.replicate X.vs (-1)).length ≤ X.vs
      rw [List.length_replicate]; exact Nat.le_refl _
structure CS where
  r : Nat
  bs : List SB
  fb : Nat
  cap : Nat
  jf : List Value
  ov : Value
  Eo : List (Nat × Obj)
  xs : List Value
  T : List (Nat × Obj)
def CS.tail (s : CS) : List (Nat × Obj) := s.Eo ++ s.T
structure CSI (X : SX) (cs0 : List Core) (s : CS) : Prop where
  hr : s.r ≤ X.n
  si : SIn X s.T
  fi : FrI X s.T s.bs s.fb s.jf
  fj : FrJ s.bs s.r
  bl : s.bs.length ≤ 1024
  row : Row s.ov s.r s.xs 4 34 s.Eo
  code : codeP X X.n cs0 = codeP X (X.n - s.r) (s.bs.map SB.core)
  ok : okP X (X.n - s.r) (s.bs.map SB.core)
theorem code_over {X : SX} {m r : Nat} {cs : List Core} (hr : m = r + 1) (h : 1024 < (roundP X cs).length) : codeP X m cs = 6 := by subst hr; show (if _ then (6 : Int) else _) = 6; rw [if_pos h]
theorem code_on {X : SX} {m r : Nat} {cs cs' : List Core} (hr : m = r + 1) (e : cs' = roundP X cs) (h : ¬ 1024 < cs'.length) : codeP X m cs = codeP X r cs' := by subst hr; subst e; show (if _ then (6 : Int) else _) = _; rw [if_neg h]
theorem ok_on {X : SX} {m r : Nat} {cs cs' : List Core} (hr : m = r + 1) (e : cs' = roundP X cs) (h : okP X m cs) : cs' ≠ [] ∧ (¬ 1024 < cs'.length → okP X r cs') := by subst hr; subst e; exact h
theorem code_end {X : SX} {cs : List Core} : codeP X 0 cs = 0 := rfl
theorem all3 {v u : Value} {s : ByteArray} (h : v.oneCell' = true) (h2 : u.oneCell' = true) : [Value.string s, v, u].all (·.oneCell') = true := by simp [h, h2]; rfl
attribute [local irreducible] codeP okP roundP outerP followP mAt ocA s0B


set_option maxHeartbeats 16000000 in
theorem canon_spec (body : List (Nat × Nat)) (ra : List Nat) (rb n rc : Nat) (rj : List Value) (hs : ByteArray) (Z : List (Nat × Obj)) (hU : RuIn body ra rb n rj Z) (hok0 : ∀ X : SX, X.body = body → X.oc = ocA body (mAt body n) n → X.n = n → okP X n [(0, List.replicate (mAt body n) (-1), 0)]) : SpK Try.prog 4 #[.agg ⟨[.string hs, .slice none 0 0, .slice (some ⟨rb, 0, none⟩) n rc]⟩] (Mem Z) [] (fun u F' => ∃ (X : SX) (cs : List Value), X.body = body ∧ X.oc = ocA body (mAt body n) n ∧ X.n = n ∧ cs.length = 3 ∧ cs.all (·.oneCell') = true ∧ u = .tuple #[.agg ⟨cs⟩, .int .u8 (codeP X n [(0, List.replicate (mAt body n) (-1), 0)])] ∧ F' = []) := by
  refine f_enter (args := [.agg ⟨[.string hs, .slice none 0 0, .slice (some ⟨rb, 0, none⟩) n rc]⟩]) Try.func4 rfl Try.ntmps4 rfl ?_
  intro w0 w a hpre hl hh
  have h64 := hU.n64
  simp only [slotsFrom, Nat.reduceAdd] at hl
  refine c_seq ?_
  refine c_region ?_
  refine wl (w_box hl hh rfl trivial rfl rfl ?_)
  clear hl hh a w; intro k1 a w hl hh
  refine wl (w_alloc hl hh rfl trivial zero27 rfl ?_)
  clear hl hh a w; intro k2 a w hl hh
  refine wl (wl_val hl rfl trivial (r_assign hl rfl) ?_)
  clear hl a; intro a hl
  refine w_nil ?_
  have hl2 := hl.add (t := 1) (hl.add (t := 2) (hl.nil) rfl) rfl; clear hl; have hl := hl2; clear hl2
  refine then_normal ?_
  refine c_seq ?_
  refine c_seq ?_
  refine c_region ?_
  refine wl (wl_val hl rfl trivial (r_field hl rfl fld27_1) ?_)
  clear hl a; intro a hl
  refine wl (w_load hl hh rfl trivial one25 rfl (by repeat (first | exact find_head | apply find_tail)) (by first | rfl) ?_)
  clear hl a; intro a hl
  refine wl (wl_val hl rfl trivial (r_lenS hl rfl slc25) ?_)
  clear hl a; intro a hl
  refine wl (wl_val hl rfl trivial (r_gtr hl rfl rfl) ?_)
  clear hl a; intro a hl
  refine w_nil ?_
  have hl2 := hl.add (t := 1) (hl.add (t := 2) (hl.add (t := 14) (hl.nil) rfl) rfl) rfl; clear hl; have hl := hl2; clear hl2
  refine then_normal ?_
  refine c_cond hl rfl ?_ ?_
  · intro hc0
    try simp only [decide_eq_true_eq, decide_eq_false_iff_not, Bool.not_eq_true', Bool.not_eq_false', Bool.not_eq_true, Bool.not_eq_false, Bool.and_eq_true, Bool.or_eq_true, Bool.and_eq_false_iff, Bool.or_eq_false_iff, Bool.not_not, ne_eq, Int.not_lt, Int.not_le, Decidable.not_not, beq_iff_eq, bne_iff_ne] at hc0
    exfalso; first | contradiction | omega
  · intro hc0
    try simp only [decide_eq_true_eq, decide_eq_false_iff_not, Bool.not_eq_true', Bool.not_eq_false', Bool.not_eq_true, Bool.not_eq_false, Bool.and_eq_true, Bool.or_eq_true, Bool.and_eq_false_iff, Bool.or_eq_false_iff, Bool.not_not, ne_eq, Int.not_lt, Int.not_le, Decidable.not_not, beq_iff_eq, bne_iff_ne] at hc0
    refine wp_skip ?_
    refine then_normal ?_
    refine c_seq ?_
    refine c_region ?_
    refine wl (w_loadA hl hh rfl trivial agg27 rfl (by repeat (first | exact find_head | apply find_tail)) (by first | (simp only [List.getElem?_cons_zero, List.getElem?_cons_succ, Value.cells, List.take_zero, List.take_succ_cons, List.take_nil, List.drop_zero, List.drop_succ_cons, List.drop_nil, List.length_cons, List.length_nil, List.cons_append, List.nil_append, List.append_nil, Nat.zero_add, Nat.add_zero, Nat.reduceAdd, Nat.reduceBEq, Nat.reduceEqDiff, Nat.ble, BEq.rfl, Bool.and_true, Bool.and_self, cond_true, beq_self_eq_true]; rfl)) (by first | rfl | (simp; done)) ?_)
    clear hl a; intro a hl
    refine wl (w_call hl hh rfl trivial rfl cal5 rfl (search_spec body ra rb n rc rj hs Z hU) (by repeat (first | exact keeps_nil | apply keeps_cons (by repeat (first | exact find_head | apply find_tail)) (by first  | rfl) | exact keeps_self | exact keeps_left | exact keeps_right | exact keeps_swap | apply keeps_mv)) (mem_keep hh hpre) ?_)
    clear hl hh a w; intro vc Fc a w hR hl hh
    obtain ⟨X, hb, E, rfl, hXb, hXn, hXvs, hXo, hXh, hhb, hSI, rfl⟩ := hR
    try simp only [List.cons_append, List.nil_append] at hh
    replace hh := has_t1 hh
    simp only [List.cons_append, List.nil_append] at hh
    have hX64 := hSI.n64
    have hX900 := hSI.v1000
    refine wl (wl_val hl rfl trivial (r_assign hl rfl) ?_)
    clear hl a; intro a hl
    refine w_nil ?_
    have hl2 := hl.add (t := 2) (hl.add (t := 4) (hl.nil) rfl) rfl; clear hl; have hl := hl2; clear hl2
    refine then_normal ?_
    refine c_seq ?_
    refine c_region ?_
    refine wl (wl_val hl rfl trivial (r_move hl rfl) ?_)
    clear hl a; intro a hl
    refine wl (wl_val hl rfl trivial (r_nilCheck hl rfl) ?_)
    clear hl a; intro a hl
    refine wl (wl_val hl rfl trivial (r_field hl rfl fld44_2) ?_)
    clear hl a; intro a hl
    refine wl (w_load hl hh rfl trivial one3 rfl (by repeat (first | exact find_head | apply find_tail)) (by rfl) ?_)
    clear hl a; intro a hl
    refine wl (w_makeSliceN hl hh rfl trivial app41 zero3 rfl rfl (by omega) (by decide) ?_)
    clear hl hh a w; intro k22 jk22 a w hjk22 hl hh
    have hz22 := zeros_iI hjk22.1 hjk22.2
    rw [← nm_zero] at hz22
    subst hz22
    refine wl (wl_val hl rfl trivial (r_build hl rfl zero47 bld47 (by simp only [fillL, setL, List.getElem?_cons_zero, List.getElem?_cons_succ, Value.cells, List.take_zero, List.take_succ_cons, List.take_nil, List.drop_zero, List.drop_succ_cons, List.drop_nil, List.length_cons, List.length_nil, List.cons_append, List.nil_append, List.append_nil, Nat.zero_add, Nat.add_zero, Nat.reduceAdd, Nat.reduceBEq, Nat.reduceEqDiff, Nat.ble, BEq.rfl, Bool.and_true, Bool.and_self, cond_true, beq_self_eq_true]; rfl)) ?_)
    clear hl a; intro a hl
    refine wl (w_alloc hl hh rfl trivial zero47 rfl ?_)
    clear hl hh a w; intro k5 a w hl hh
    refine wl (w_storeA hl hh trivial agg47 rfl rfl (by repeat (first | exact find_head | apply find_tail)) (by first | rfl | (simp; done)) (by first | (simp; done) | (simp; omega)) (by first | rfl | (simp; done) | exact all4 hkl | exact all3 rfl hone2) (by first | (simp only [setL, List.getElem?_cons_zero, List.getElem?_cons_succ, Value.cells, List.take_zero, List.take_succ_cons, List.take_nil, List.drop_zero, List.drop_succ_cons, List.drop_nil, List.length_cons, List.length_nil, List.cons_append, List.nil_append, List.append_nil, Nat.zero_add, Nat.add_zero, Nat.reduceAdd, Nat.reduceBEq, Nat.reduceEqDiff, Nat.ble, BEq.rfl, Bool.and_true, Bool.and_self, cond_true, beq_self_eq_true]; rfl)) ?_)
    clear hh w; intro w hh
    refine w_nil ?_
    have hl2 := hl.add (t := 2) (hl.add (t := 4) (hl.add (t := 5) (hl.nil) rfl) rfl) rfl; clear hl; have hl := hl2; clear hl2
    refine then_normal ?_
    refine c_seq ?_
    refine c_seq ?_
    refine c_region ?_
    refine wl (wl_val hl rfl trivial (r_field hl rfl fld47_1) ?_)
    clear hl a; intro a hl
    refine wl (w_load hl hh rfl trivial one41 rfl (by repeat (first | exact find_head | apply find_tail)) (by first | rfl) ?_)
    clear hl a; intro a hl
    refine wl (wl_val hl rfl trivial (r_lenS hl rfl slc41) ?_)
    clear hl a; intro a hl
    refine wl (wl_val hl rfl trivial (r_move hl rfl) ?_)
    clear hl a; intro a hl
    refine w_nil ?_
    have hl2 := hl.add (t := 2) (hl.add (t := 4) (hl.add (t := 5) (hl.add (t := 26) (hl.add (t := 27) (hl.nil) rfl) rfl) rfl) rfl) rfl; clear hl; have hl := hl2; clear hl2
    refine then_normal ?_
    refine wp_block ?_
    obtain ⟨KS0, hKS0, hk⟩ := (hl.add (t := 2) (hl.add (t := 4) (hl.add (t := 5) (hl.add (t := 26) (hl.nil) rfl) rfl) rfl) rfl).name
    obtain ⟨HS0, hHS0, hh2⟩ := hh.name (keeps_cons (b := k22) (o' := C (fl iI (nmI X.vs 0)) 3) (by repeat (first | exact find_head | apply find_tail)) (by first | rfl | rfl) (keeps_nil))
    refine c_loop (α := Nat) (fun i => X.vs - i) (fun i a w => (i ≤ X.vs) ∧ Sl 85 ([(27, .int .i64 (i : Int))] ++ KS0) a ∧ Has _ w0 ([(k22, C (fl iI (nmI X.vs i)) 3)] ++ HS0) w) 0 ⟨(Nat.zero_le _), hl.addE (t := 27) (hk) rfl (by first | rfl), hh2⟩ ?_
    clear hk hh2 hl hh a w
    intro i a w hI
    obtain ⟨hi0, hl, hh⟩ := hI
    subst hKS0; subst hHS0
    simp only [List.cons_append, List.nil_append, List.append_nil] at hl hh
    refine c_seq ?_
    refine c_region ?_
    refine wl (wl_val hl rfl trivial (r_lss hl rfl rfl) ?_)
    clear hl a; intro a hl
    refine w_nil ?_
    have hl2 := hl.add (t := 2) (hl.add (t := 4) (hl.add (t := 5) (hl.add (t := 26) (hl.add (t := 27) (hl.add (t := 28) (hl.nil) rfl) rfl) rfl) rfl) rfl) rfl; clear hl; have hl := hl2; clear hl2
    refine then_normal ?_
    refine c_seq ?_
    refine c_cond hl rfl ?_ ?_
    · intro hc1
      try simp only [decide_eq_true_eq, decide_eq_false_iff_not, Bool.not_eq_true', Bool.not_eq_false', Bool.not_eq_true, Bool.not_eq_false, Bool.and_eq_true, Bool.or_eq_true, Bool.and_eq_false_iff, Bool.or_eq_false_iff, Bool.not_not, ne_eq, Int.not_lt, Int.not_le, Decidable.not_not, beq_iff_eq, bne_iff_ne] at hc1
      skip
      refine wp_skip ?_
      refine then_normal ?_
      refine c_seq ?_
      refine wp_block ?_
      refine c_seq ?_
      refine c_region ?_
      refine wl (wl_val hl rfl trivial (r_move hl rfl) ?_)
      clear hl a; intro a hl
      refine wl (wl_val hl rfl trivial (r_assign hl rfl) ?_)
      clear hl a; intro a hl
      refine w_nil ?_
      have hl2 := hl.add (t := 2) (hl.add (t := 4) (hl.add (t := 5) (hl.add (t := 6) (hl.add (t := 26) (hl.add (t := 27) (hl.nil) rfl) rfl) rfl) rfl) rfl) rfl; clear hl; have hl := hl2; clear hl2
      refine then_normal ?_
      refine c_region ?_
      refine wl (wl_val hl rfl trivial (r_field hl rfl fld47_1) ?_)
      clear hl a; intro a hl
      refine wl (w_load hl hh rfl trivial one41 rfl (by repeat (first | exact find_head | apply find_tail)) (by first | rfl) ?_)
      clear hl a; intro a hl
      refine wl (wl_val hl rfl trivial (r_move hl rfl) ?_)
      clear hl a; intro a hl
      refine wl (wl_val hl rfl trivial (r_indexS hl rfl rfl slc41 (by omega) (by omega) (by first | (simp only [Int.reduceToNat]; rfl) | exact toNat_add1 _ | exact toNat_add2 _ _ | exact toNat_emod _ _ | exact Int.toNat_natCast _ | rfl)) ?_)
      clear hl a; intro a hl
      refine wl (w_store hl hh trivial one3 rfl rfl (by repeat (first | exact find_head | apply find_tail)) (by rw [fl_len iI_len, nm_len (by omega)]; omega) (by first | rfl | assumption | (apply Row.one; assumption)) (by exact nm_set (by omega)) ?_)
      clear hh w; intro w hh
      refine w_nil ?_
      have hl2 := hl.add (t := 2) (hl.add (t := 4) (hl.add (t := 5) (hl.add (t := 26) (hl.add (t := 27) (hl.nil) rfl) rfl) rfl) rfl) rfl; clear hl; have hl := hl2; clear hl2
      refine blk_normal ?_
      refine then_normal ?_
      refine c_region ?_
      first | refine wl (wl_val hl rfl trivial (r_add hl rfl rfl (by simp only [Fits]; omega)) ?_) | refine wl (wl_val hl rfl trivial (r_addW hl rfl rfl) ?_)
      clear hl a; intro a hl
      refine wl (wl_val hl rfl trivial (r_move hl rfl) ?_)
      clear hl a; intro a hl
      refine w_nil ?_
      have hl2 := hl.add (t := 2) (hl.add (t := 4) (hl.add (t := 5) (hl.add (t := 26) (hl.add (t := 27) (hl.nil) rfl) rfl) rfl) rfl) rfl; clear hl; have hl := hl2; clear hl2
      refine then_normal ?_
      refine ⟨(i + 1), (by omega), (by omega), hl.addE (t := 27) (hl.addE (t := 2) (hl.addE (t := 4) (hl.addE (t := 5) (hl.addE (t := 26) (hl.nil) rfl (by first | rfl | rfl)) rfl (by first | rfl | rfl)) rfl (by first | rfl | rfl)) rfl (by first | rfl | rfl)) rfl (by first | rfl | rfl), hh.keep (by repeat (first | exact keeps_nil | apply keeps_cons (by repeat (first | exact find_head | apply find_tail)) (by first  | rfl) | exact keeps_self | exact keeps_left | exact keeps_right | exact keeps_swap | apply keeps_mv))⟩
    · intro hc1
      try simp only [decide_eq_true_eq, decide_eq_false_iff_not, Bool.not_eq_true', Bool.not_eq_false', Bool.not_eq_true, Bool.not_eq_false, Bool.and_eq_true, Bool.or_eq_true, Bool.and_eq_false_iff, Bool.or_eq_false_iff, Bool.not_not, ne_eq, Int.not_lt, Int.not_le, Decidable.not_not, beq_iff_eq, bne_iff_ne] at hc1
      have hiv : X.vs = i := by omega
      subst hiv
      rw [nm_full] at hh
      refine wp_exit ?_
      refine then_exit ?_
      refine then_exit ?_
      refine blk_exit ?_
      refine then_normal ?_
      refine c_seq ?_
      refine cut_region (fun a w => ∃ k7 k52 jk52 qp qc, (jk52.length = X.n * 4) ∧ Sl 85 [(2, .pointer (some ⟨k2, 0, none⟩)), (4, .pointer (some ⟨X.sb, 0, none⟩)), (5, .pointer (some ⟨k5, 0, none⟩)), (7, .pointer (some ⟨k7, 0, none⟩))] a ∧ Has [] w0 ((k7, C [.string X.hs, .slice qp 0 qc, .slice (some ⟨k52, 0, none⟩) 0 X.n] 27) :: (k2, C [.string ⟨#[]⟩, .slice none 0 0, .slice none 0 0] 27) :: (k52, C jk52 34) :: (k5, C [.int .u64 0, .slice (some ⟨k22, 0, none⟩) X.vs X.vs, .int .i64 0] 47) :: (k22, C (fl iI (List.replicate X.vs (-1))) 3) :: (X.sb, C [.string X.hs, X.hv, .slice (some ⟨X.bb, 0, none⟩) X.n X.n, .int .i64 (X.vs : Int), .slice (some ⟨X.ob, 0, none⟩) X.vs X.vs] 44) :: E) w) ?_ ?_
      ·
        refine c_draw [(X.sb, C [.string X.hs, X.hv, .slice (some ⟨X.bb, 0, none⟩) X.n X.n, .int .i64 (X.vs : Int), .slice (some ⟨X.ob, 0, none⟩) X.vs X.vs] 44)] [20] mixed hh ?_
        clear hh w; intro w hh
        have hM : Mem [(X.sb, C [.string X.hs, X.hv, .slice (some ⟨X.bb, 0, none⟩) X.n X.n, .int .i64 (X.vs : Int), .slice (some ⟨X.ob, 0, none⟩) X.vs X.vs] 44)] w := (by repeat (first | exact Mem.nil | refine Mem.cons hh.mem (by repeat (first | exact find_head | apply find_tail)) ?_ | refine Mem.consR hh (by assumption) (by simp) ?_))
        refine d_take (i := 0) hl rfl (by kernel_rfl) (by kernel_rfl) (by kernel_rfl) (by kernel_rfl) (by kernel_rfl) rfl trivial (fun _ _ _ h => by cases h.1) hM (fun w hC => r_move hl rfl) rfl ?_
        clear hl a; intro a hl
        refine d_take (i := 1) hl rfl (by kernel_rfl) (by kernel_rfl) (by kernel_rfl) (by kernel_rfl) (by kernel_rfl) rfl trivial (fun _ _ _ h => by cases h.1) hM (fun w hC => r_nilCheck hl rfl) rfl ?_
        clear hl a; intro a hl
        refine d_take (i := 2) hl rfl (by kernel_rfl) (by kernel_rfl) (by kernel_rfl) (by kernel_rfl) (by kernel_rfl) rfl trivial (fun _ _ _ h => by cases h.1) hM (fun w hC => r_field hl rfl fld44_0) rfl ?_
        clear hl a; intro a hl
        refine d_take (i := 3) hl rfl (by kernel_rfl) (by kernel_rfl) (by kernel_rfl) (by kernel_rfl) (by kernel_rfl) rfl trivial (fun _ _ _ h => by cases h.1) hM (fun w hC => r_field hl rfl fld24_0) rfl ?_
        clear hl a; intro a hl
        refine d_take (i := 4) hl rfl (by kernel_rfl) (by kernel_rfl) (by kernel_rfl) (by kernel_rfl) (by kernel_rfl) rfl trivial (fun _ _ _ h => by cases h.1) hM (fun w hC => r_loadC hl rfl one9 hC (by repeat (first | exact find_head | apply find_tail)) (by first | rfl)) rfl ?_
        clear hl a; intro a hl
        refine d_take (i := 5) hl rfl (by kernel_rfl) (by kernel_rfl) (by kernel_rfl) (by kernel_rfl) (by kernel_rfl) rfl trivial (fun _ _ _ h => by cases h.1) hM (fun w hC => r_move hl rfl) rfl ?_
        clear hl a; intro a hl
        refine d_take (i := 6) hl rfl (by kernel_rfl) (by kernel_rfl) (by kernel_rfl) (by kernel_rfl) (by kernel_rfl) rfl trivial (fun _ _ _ h => by cases h.1) hM (fun w hC => r_nilCheck hl rfl) rfl ?_
        clear hl a; intro a hl
        refine d_take (i := 7) hl rfl (by kernel_rfl) (by kernel_rfl) (by kernel_rfl) (by kernel_rfl) (by kernel_rfl) rfl trivial (fun _ _ _ h => by cases h.1) hM (fun w hC => r_field hl rfl fld44_0) rfl ?_
        clear hl a; intro a hl
        refine d_take (i := 8) hl rfl (by kernel_rfl) (by kernel_rfl) (by kernel_rfl) (by kernel_rfl) (by kernel_rfl) rfl trivial (fun _ _ _ h => by cases h.1) hM (fun w hC => r_field hl rfl fld24_1) rfl ?_
        clear hl a; intro a hl
        refine d_take (i := 9) hl rfl (by kernel_rfl) (by kernel_rfl) (by kernel_rfl) (by kernel_rfl) (by kernel_rfl) rfl trivial (fun _ _ _ h => by cases h.1) hM (fun w hC => r_loadC hl rfl one22 hC (by repeat (first | exact find_head | apply find_tail)) (by first | rfl)) rfl ?_
        clear hl a; intro a hl
        rw [hXh] at hl
        refine d_take (i := 12) hl rfl (by kernel_rfl) (by kernel_rfl) (by kernel_rfl) (by kernel_rfl) (by kernel_rfl) rfl trivial (fun _ _ _ h => by cases h.1) hM (fun w hC => r_move hl rfl) rfl ?_
        clear hl a; intro a hl
        refine d_take (i := 13) hl rfl (by kernel_rfl) (by kernel_rfl) (by kernel_rfl) (by kernel_rfl) (by kernel_rfl) rfl trivial (fun _ _ _ h => by cases h.1) hM (fun w hC => r_nilCheck hl rfl) rfl ?_
        clear hl a; intro a hl
        refine d_take (i := 14) hl rfl (by kernel_rfl) (by kernel_rfl) (by kernel_rfl) (by kernel_rfl) (by kernel_rfl) rfl trivial (fun _ _ _ h => by cases h.1) hM (fun w hC => r_field hl rfl fld44_1) rfl ?_
        clear hl a; intro a hl
        refine d_take (i := 15) hl rfl (by kernel_rfl) (by kernel_rfl) (by kernel_rfl) (by kernel_rfl) (by kernel_rfl) rfl trivial (fun _ _ _ h => by cases h.1) hM (fun w hC => r_loadC hl rfl one25 hC (by repeat (first | exact find_head | apply find_tail)) (by rfl)) rfl ?_
        clear hl a; intro a hl
        refine d_take (i := 16) hl rfl (by kernel_rfl) (by kernel_rfl) (by kernel_rfl) (by kernel_rfl) (by kernel_rfl) rfl trivial (fun _ _ _ h => by cases h.1) hM (fun w hC => r_lenS hl rfl slc25) rfl ?_
        clear hl a; intro a hl
        refine d_three (i := 10) (j := 17) (k := 19) (by kernel_rfl) rfl rfl rfl ?_ ?_ ?_
        ·
          try clear hM
          refine id (w_call hl hh rfl trivial rfl cal6 rfl (read_keep k5 0 k22 X.vs [.int .u64 0, .slice (some ⟨k22, 0, none⟩) X.vs X.vs, .int .i64 0] 47 (List.replicate X.vs (-1)) [] 0 [] (some ⟨hb, 0, none⟩) 0 [(hb, C [] 30)] (.inr ⟨hb, 0, [], rfl, rfl, rfl, Nat.le_refl _, rfl⟩) (fun z hz => by rw [List.mem_singleton] at hz; subst hz; exact ⟨own_ne (l1 := []) (t1 := 30) hh (by simp [hhb]) (Find.mem (by repeat (first | exact find_head | apply find_tail))) (by decide), own_ne (l1 := []) (t1 := 30) hh (by simp [hhb]) (Find.mem (by repeat (first | exact find_head | apply find_tail))) (by decide)⟩) (by rw [List.length_replicate]; rfl) rfl (fun v hv => by cases hv) (by rw [List.length_replicate]; omega) (by simp) ⟨Int.le_refl _, by decide⟩) (by repeat (first | exact keeps_nil | apply keeps_cons (by repeat (first | exact find_head | apply find_tail)) (by first | simp only [List.append_nil] | rfl) | exact keeps_self | exact keeps_left | exact keeps_right | exact keeps_swap | apply keeps_mv)) (fun b o m => by rw [List.mem_singleton] at m; cases m; exact hh.mem _ _ (by simp [hhb])) ?_)
          clear hl hh a w; intro vc Fc a w hR hl hh
          obtain ⟨Er, hRr, _, rfl⟩ := hR
          try simp only [List.cons_append, List.nil_append] at hh
          simp only [List.append_nil] at hh
          obtain ⟨qp, qc, hqv⟩ := row_val hRr
          subst hqv
          rw [show rdP (List.replicate X.vs (-1)) 0 [] = (List.replicate X.vs (-1), 0, []) from rfl] at hh
          replace hh := has_drop2 hh
          simp only [setL, List.length_nil] at hl hh
          have hM : Mem [(X.sb, C [.string X.hs, X.hv, .slice (some ⟨X.bb, 0, none⟩) X.n X.n, .int .i64 (X.vs : Int), .slice (some ⟨X.ob, 0, none⟩) X.vs X.vs] 44)] w := (by repeat (first | exact Mem.nil | refine Mem.cons hh.mem (by repeat (first | exact find_head | apply find_tail)) ?_ | refine Mem.consR hh (by assumption) (by simp) ?_))
          refine d_step (fun _ => hM) ?_
          refine d_take (i := 11) hl rfl (by kernel_rfl) (by kernel_rfl) (by kernel_rfl) (by kernel_rfl) (by kernel_rfl) rfl trivial (fun _ _ _ h => by cases h.1) hM (fun w hC => r_build hl rfl zero24 bld24 (by simp only [fillL, setL, List.getElem?_cons_zero, List.getElem?_cons_succ, Value.cells, List.take_zero, List.take_succ_cons, List.take_nil, List.drop_zero, List.drop_succ_cons, List.drop_nil, List.length_cons, List.length_nil, List.cons_append, List.nil_append, List.append_nil, Nat.zero_add, Nat.add_zero, Nat.reduceAdd, Nat.reduceBEq, Nat.reduceEqDiff, Nat.ble, BEq.rfl, Bool.and_true, Bool.and_self, cond_true, beq_self_eq_true]; rfl)) rfl ?_
          clear hl a; intro a hl
          refine d_two (i := 17) (j := 19) (by kernel_rfl) rfl rfl ?_ ?_
          ·
            try clear hM
            refine id (w_makeSlice0 hl hh rfl trivial app25 rfl rfl (by omega) (by decide) ?_)
            clear hl hh a w; intro k52 jk52 a w hjk52 hl hh
            have hM : Mem [(X.sb, C [.string X.hs, X.hv, .slice (some ⟨X.bb, 0, none⟩) X.n X.n, .int .i64 (X.vs : Int), .slice (some ⟨X.ob, 0, none⟩) X.vs X.vs] 44)] w := (by repeat (first | exact Mem.nil | refine Mem.cons hh.mem (by repeat (first | exact find_head | apply find_tail)) ?_ | refine Mem.consR hh (by assumption) (by simp) ?_))
            refine d_step (fun _ => hM) ?_
            refine d_take (i := 18) hl rfl (by kernel_rfl) (by kernel_rfl) (by kernel_rfl) (by kernel_rfl) (by kernel_rfl) rfl trivial (fun _ _ _ h => by cases h.1) hM (fun w hC => r_build hl rfl zero27 bld27 (by simp only [fillL, setL, List.getElem?_cons_zero, List.getElem?_cons_succ, Value.cells, List.take_zero, List.take_succ_cons, List.take_nil, List.drop_zero, List.drop_succ_cons, List.drop_nil, List.length_cons, List.length_nil, List.cons_append, List.nil_append, List.append_nil, Nat.zero_add, Nat.add_zero, Nat.reduceAdd, Nat.reduceBEq, Nat.reduceEqDiff, Nat.ble, BEq.rfl, Bool.and_true, Bool.and_self, cond_true, beq_self_eq_true]; rfl)) rfl ?_
            clear hl a; intro a hl
            refine d_one (i := 19) (by kernel_rfl) rfl ?_
            try clear hM
            refine id (w_alloc hl hh rfl trivial zero27 rfl ?_)
            clear hl hh a w; intro k7 a w hl hh
            have hM : Mem [(X.sb, C [.string X.hs, X.hv, .slice (some ⟨X.bb, 0, none⟩) X.n X.n, .int .i64 (X.vs : Int), .slice (some ⟨X.ob, 0, none⟩) X.vs X.vs] 44)] w := (by repeat (first | exact Mem.nil | refine Mem.cons hh.mem (by repeat (first | exact find_head | apply find_tail)) ?_ | refine Mem.consR hh (by assumption) (by simp) ?_))
            refine d_step (fun _ => hM) ?_
            refine d_one (i := 20) (by kernel_rfl) rfl ?_
            try clear hM
            refine id (w_storeA hl hh trivial agg27 rfl rfl (by repeat (first | exact find_head | apply find_tail)) (by first | rfl | (simp; done)) (by first | (simp; done) | (simp; omega)) (by first | rfl | (simp; done) | exact all4 hkl | exact all3 rfl hone2) (by first | (simp only [setL, List.getElem?_cons_zero, List.getElem?_cons_succ, Value.cells, List.take_zero, List.take_succ_cons, List.take_nil, List.drop_zero, List.drop_succ_cons, List.drop_nil, List.length_cons, List.length_nil, List.cons_append, List.nil_append, List.append_nil, Nat.zero_add, Nat.add_zero, Nat.reduceAdd, Nat.reduceBEq, Nat.reduceEqDiff, Nat.ble, BEq.rfl, Bool.and_true, Bool.and_self, cond_true, beq_self_eq_true]; rfl)) ?_)
            clear hh w; intro w hh
            refine d_step (fun h => absurd h (by decide)) ?_
            refine d_done (by kernel_rfl) ?_
            try clear hM
            exact ⟨rfl, k7, k52, jk52, qp, qc, hjk52, hl.addE (t := 2) (hl.addE (t := 4) (hl.addE (t := 5) (hl.addE (t := 7) (hl.nil) rfl (by first | rfl)) rfl (by first | rfl)) rfl (by first | rfl)) rfl (by first | rfl), hh.keep (by repeat (first | exact keeps_nil | apply keeps_cons (by repeat (first | exact find_head | apply find_tail)) (by first  | rfl) | exact keeps_self | exact keeps_left | exact keeps_right | exact keeps_swap | apply keeps_mv))⟩
          ·
            try clear hM
            refine id (w_alloc hl hh rfl trivial zero27 rfl ?_)
            clear hl hh a w; intro k7 a w hl hh
            have hM : Mem [(X.sb, C [.string X.hs, X.hv, .slice (some ⟨X.bb, 0, none⟩) X.n X.n, .int .i64 (X.vs : Int), .slice (some ⟨X.ob, 0, none⟩) X.vs X.vs] 44)] w := (by repeat (first | exact Mem.nil | refine Mem.cons hh.mem (by repeat (first | exact find_head | apply find_tail)) ?_ | refine Mem.consR hh (by assumption) (by simp) ?_))
            refine d_step (fun _ => hM) ?_
            refine d_one (i := 17) (by kernel_rfl) rfl ?_
            try clear hM
            refine id (w_makeSlice0 hl hh rfl trivial app25 rfl rfl (by omega) (by decide) ?_)
            clear hl hh a w; intro k52 jk52 a w hjk52 hl hh
            have hM : Mem [(X.sb, C [.string X.hs, X.hv, .slice (some ⟨X.bb, 0, none⟩) X.n X.n, .int .i64 (X.vs : Int), .slice (some ⟨X.ob, 0, none⟩) X.vs X.vs] 44)] w := (by repeat (first | exact Mem.nil | refine Mem.cons hh.mem (by repeat (first | exact find_head | apply find_tail)) ?_ | refine Mem.consR hh (by assumption) (by simp) ?_))
            refine d_step (fun _ => hM) ?_
            refine d_take (i := 18) hl rfl (by kernel_rfl) (by kernel_rfl) (by kernel_rfl) (by kernel_rfl) (by kernel_rfl) rfl trivial (fun _ _ _ h => by cases h.1) hM (fun w hC => r_build hl rfl zero27 bld27 (by simp only [fillL, setL, List.getElem?_cons_zero, List.getElem?_cons_succ, Value.cells, List.take_zero, List.take_succ_cons, List.take_nil, List.drop_zero, List.drop_succ_cons, List.drop_nil, List.length_cons, List.length_nil, List.cons_append, List.nil_append, List.append_nil, Nat.zero_add, Nat.add_zero, Nat.reduceAdd, Nat.reduceBEq, Nat.reduceEqDiff, Nat.ble, BEq.rfl, Bool.and_true, Bool.and_self, cond_true, beq_self_eq_true]; rfl)) rfl ?_
            clear hl a; intro a hl
            refine d_one (i := 20) (by kernel_rfl) rfl ?_
            try clear hM
            refine id (w_storeA hl hh trivial agg27 rfl rfl (by repeat (first | exact find_head | apply find_tail)) (by first | rfl | (simp; done)) (by first | (simp; done) | (simp; omega)) (by first | rfl | (simp; done) | exact all4 hkl | exact all3 rfl hone2) (by first | (simp only [setL, List.getElem?_cons_zero, List.getElem?_cons_succ, Value.cells, List.take_zero, List.take_succ_cons, List.take_nil, List.drop_zero, List.drop_succ_cons, List.drop_nil, List.length_cons, List.length_nil, List.cons_append, List.nil_append, List.append_nil, Nat.zero_add, Nat.add_zero, Nat.reduceAdd, Nat.reduceBEq, Nat.reduceEqDiff, Nat.ble, BEq.rfl, Bool.and_true, Bool.and_self, cond_true, beq_self_eq_true]; rfl)) ?_)
            clear hh w; intro w hh
            refine d_step (fun h => absurd h (by decide)) ?_
            refine d_done (by kernel_rfl) ?_
            try clear hM
            exact ⟨rfl, k7, k52, jk52, qp, qc, hjk52, hl.addE (t := 2) (hl.addE (t := 4) (hl.addE (t := 5) (hl.addE (t := 7) (hl.nil) rfl (by first | rfl)) rfl (by first | rfl)) rfl (by first | rfl)) rfl (by first | rfl), hh.keep (by repeat (first | exact keeps_nil | apply keeps_cons (by repeat (first | exact find_head | apply find_tail)) (by first  | rfl) | exact keeps_self | exact keeps_left | exact keeps_right | exact keeps_swap | apply keeps_mv))⟩
        ·
          try clear hM
          refine id (w_makeSlice0 hl hh rfl trivial app25 rfl rfl (by omega) (by decide) ?_)
          clear hl hh a w; intro k52 jk52 a w hjk52 hl hh
          have hM : Mem [(X.sb, C [.string X.hs, X.hv, .slice (some ⟨X.bb, 0, none⟩) X.n X.n, .int .i64 (X.vs : Int), .slice (some ⟨X.ob, 0, none⟩) X.vs X.vs] 44)] w := (by repeat (first | exact Mem.nil | refine Mem.cons hh.mem (by repeat (first | exact find_head | apply find_tail)) ?_ | refine Mem.consR hh (by assumption) (by simp) ?_))
          refine d_step (fun _ => hM) ?_
          refine d_two (i := 10) (j := 19) (by kernel_rfl) rfl rfl ?_ ?_
          ·
            try clear hM
            refine id (w_call hl hh rfl trivial rfl cal6 rfl (read_keep k5 0 k22 X.vs [.int .u64 0, .slice (some ⟨k22, 0, none⟩) X.vs X.vs, .int .i64 0] 47 (List.replicate X.vs (-1)) [] 0 [] (some ⟨hb, 0, none⟩) 0 [(hb, C [] 30)] (.inr ⟨hb, 0, [], rfl, rfl, rfl, Nat.le_refl _, rfl⟩) (fun z hz => by rw [List.mem_singleton] at hz; subst hz; exact ⟨own_ne (l1 := []) (t1 := 30) hh (by simp [hhb]) (Find.mem (by repeat (first | exact find_head | apply find_tail))) (by decide), own_ne (l1 := []) (t1 := 30) hh (by simp [hhb]) (Find.mem (by repeat (first | exact find_head | apply find_tail))) (by decide)⟩) (by rw [List.length_replicate]; rfl) rfl (fun v hv => by cases hv) (by rw [List.length_replicate]; omega) (by simp) ⟨Int.le_refl _, by decide⟩) (by repeat (first | exact keeps_nil | apply keeps_cons (by repeat (first | exact find_head | apply find_tail)) (by first | simp only [List.append_nil] | rfl) | exact keeps_self | exact keeps_left | exact keeps_right | exact keeps_swap | apply keeps_mv)) (fun b o m => by rw [List.mem_singleton] at m; cases m; exact hh.mem _ _ (by simp [hhb])) ?_)
            clear hl hh a w; intro vc Fc a w hR hl hh
            obtain ⟨Er, hRr, _, rfl⟩ := hR
            try simp only [List.cons_append, List.nil_append] at hh
            simp only [List.append_nil] at hh
            obtain ⟨qp, qc, hqv⟩ := row_val hRr
            subst hqv
            rw [show rdP (List.replicate X.vs (-1)) 0 [] = (List.replicate X.vs (-1), 0, []) from rfl] at hh
            replace hh := has_drop2 hh
            simp only [setL, List.length_nil] at hl hh
            have hM : Mem [(X.sb, C [.string X.hs, X.hv, .slice (some ⟨X.bb, 0, none⟩) X.n X.n, .int .i64 (X.vs : Int), .slice (some ⟨X.ob, 0, none⟩) X.vs X.vs] 44)] w := (by repeat (first | exact Mem.nil | refine Mem.cons hh.mem (by repeat (first | exact find_head | apply find_tail)) ?_ | refine Mem.consR hh (by assumption) (by simp) ?_))
            refine d_step (fun _ => hM) ?_
            refine d_take (i := 11) hl rfl (by kernel_rfl) (by kernel_rfl) (by kernel_rfl) (by kernel_rfl) (by kernel_rfl) rfl trivial (fun _ _ _ h => by cases h.1) hM (fun w hC => r_build hl rfl zero24 bld24 (by simp only [fillL, setL, List.getElem?_cons_zero, List.getElem?_cons_succ, Value.cells, List.take_zero, List.take_succ_cons, List.take_nil, List.drop_zero, List.drop_succ_cons, List.drop_nil, List.length_cons, List.length_nil, List.cons_append, List.nil_append, List.append_nil, Nat.zero_add, Nat.add_zero, Nat.reduceAdd, Nat.reduceBEq, Nat.reduceEqDiff, Nat.ble, BEq.rfl, Bool.and_true, Bool.and_self, cond_true, beq_self_eq_true]; rfl)) rfl ?_
            clear hl a; intro a hl
            refine d_take (i := 18) hl rfl (by kernel_rfl) (by kernel_rfl) (by kernel_rfl) (by kernel_rfl) (by kernel_rfl) rfl trivial (fun _ _ _ h => by cases h.1) hM (fun w hC => r_build hl rfl zero27 bld27 (by simp only [fillL, setL, List.getElem?_cons_zero, List.getElem?_cons_succ, Value.cells, List.take_zero, List.take_succ_cons, List.take_nil, List.drop_zero, List.drop_succ_cons, List.drop_nil, List.length_cons, List.length_nil, List.cons_append, List.nil_append, List.append_nil, Nat.zero_add, Nat.add_zero, Nat.reduceAdd, Nat.reduceBEq, Nat.reduceEqDiff, Nat.ble, BEq.rfl, Bool.and_true, Bool.and_self, cond_true, beq_self_eq_true]; rfl)) rfl ?_
            clear hl a; intro a hl
            refine d_one (i := 19) (by kernel_rfl) rfl ?_
            try clear hM
            refine id (w_alloc hl hh rfl trivial zero27 rfl ?_)
            clear hl hh a w; intro k7 a w hl hh
            have hM : Mem [(X.sb, C [.string X.hs, X.hv, .slice (some ⟨X.bb, 0, none⟩) X.n X.n, .int .i64 (X.vs : Int), .slice (some ⟨X.ob, 0, none⟩) X.vs X.vs] 44)] w := (by repeat (first | exact Mem.nil | refine Mem.cons hh.mem (by repeat (first | exact find_head | apply find_tail)) ?_ | refine Mem.consR hh (by assumption) (by simp) ?_))
            refine d_step (fun _ => hM) ?_
            refine d_one (i := 20) (by kernel_rfl) rfl ?_
            try clear hM
            refine id (w_storeA hl hh trivial agg27 rfl rfl (by repeat (first | exact find_head | apply find_tail)) (by first | rfl | (simp; done)) (by first | (simp; done) | (simp; omega)) (by first | rfl | (simp; done) | exact all4 hkl | exact all3 rfl hone2) (by first | (simp only [setL, List.getElem?_cons_zero, List.getElem?_cons_succ, Value.cells, List.take_zero, List.take_succ_cons, List.take_nil, List.drop_zero, List.drop_succ_cons, List.drop_nil, List.length_cons, List.length_nil, List.cons_append, List.nil_append, List.append_nil, Nat.zero_add, Nat.add_zero, Nat.reduceAdd, Nat.reduceBEq, Nat.reduceEqDiff, Nat.ble, BEq.rfl, Bool.and_true, Bool.and_self, cond_true, beq_self_eq_true]; rfl)) ?_)
            clear hh w; intro w hh
            refine d_step (fun h => absurd h (by decide)) ?_
            refine d_done (by kernel_rfl) ?_
            try clear hM
            exact ⟨rfl, k7, k52, jk52, qp, qc, hjk52, hl.addE (t := 2) (hl.addE (t := 4) (hl.addE (t := 5) (hl.addE (t := 7) (hl.nil) rfl (by first | rfl)) rfl (by first | rfl)) rfl (by first | rfl)) rfl (by first | rfl), hh.keep (by repeat (first | exact keeps_nil | apply keeps_cons (by repeat (first | exact find_head | apply find_tail)) (by first  | rfl) | exact keeps_self | exact keeps_left | exact keeps_right | exact keeps_swap | apply keeps_mv))⟩
          ·
            try clear hM
            refine id (w_alloc hl hh rfl trivial zero27 rfl ?_)
            clear hl hh a w; intro k7 a w hl hh
            have hM : Mem [(X.sb, C [.string X.hs, X.hv, .slice (some ⟨X.bb, 0, none⟩) X.n X.n, .int .i64 (X.vs : Int), .slice (some ⟨X.ob, 0, none⟩) X.vs X.vs] 44)] w := (by repeat (first | exact Mem.nil | refine Mem.cons hh.mem (by repeat (first | exact find_head | apply find_tail)) ?_ | refine Mem.consR hh (by assumption) (by simp) ?_))
            refine d_step (fun _ => hM) ?_
            refine d_one (i := 10) (by kernel_rfl) rfl ?_
            try clear hM
            refine id (w_call hl hh rfl trivial rfl cal6 rfl (read_keep k5 0 k22 X.vs [.int .u64 0, .slice (some ⟨k22, 0, none⟩) X.vs X.vs, .int .i64 0] 47 (List.replicate X.vs (-1)) [] 0 [] (some ⟨hb, 0, none⟩) 0 [(hb, C [] 30)] (.inr ⟨hb, 0, [], rfl, rfl, rfl, Nat.le_refl _, rfl⟩) (fun z hz => by rw [List.mem_singleton] at hz; subst hz; exact ⟨own_ne (l1 := []) (t1 := 30) hh (by simp [hhb]) (Find.mem (by repeat (first | exact find_head | apply find_tail))) (by decide), own_ne (l1 := []) (t1 := 30) hh (by simp [hhb]) (Find.mem (by repeat (first | exact find_head | apply find_tail))) (by decide)⟩) (by rw [List.length_replicate]; rfl) rfl (fun v hv => by cases hv) (by rw [List.length_replicate]; omega) (by simp) ⟨Int.le_refl _, by decide⟩) (by repeat (first | exact keeps_nil | apply keeps_cons (by repeat (first | exact find_head | apply find_tail)) (by first | simp only [List.append_nil] | rfl) | exact keeps_self | exact keeps_left | exact keeps_right | exact keeps_swap | apply keeps_mv)) (fun b o m => by rw [List.mem_singleton] at m; cases m; exact hh.mem _ _ (by simp [hhb])) ?_)
            clear hl hh a w; intro vc Fc a w hR hl hh
            obtain ⟨Er, hRr, _, rfl⟩ := hR
            try simp only [List.cons_append, List.nil_append] at hh
            simp only [List.append_nil] at hh
            obtain ⟨qp, qc, hqv⟩ := row_val hRr
            subst hqv
            rw [show rdP (List.replicate X.vs (-1)) 0 [] = (List.replicate X.vs (-1), 0, []) from rfl] at hh
            replace hh := has_drop2 hh
            simp only [setL, List.length_nil] at hl hh
            have hM : Mem [(X.sb, C [.string X.hs, X.hv, .slice (some ⟨X.bb, 0, none⟩) X.n X.n, .int .i64 (X.vs : Int), .slice (some ⟨X.ob, 0, none⟩) X.vs X.vs] 44)] w := (by repeat (first | exact Mem.nil | refine Mem.cons hh.mem (by repeat (first | exact find_head | apply find_tail)) ?_ | refine Mem.consR hh (by assumption) (by simp) ?_))
            refine d_step (fun _ => hM) ?_
            refine d_take (i := 11) hl rfl (by kernel_rfl) (by kernel_rfl) (by kernel_rfl) (by kernel_rfl) (by kernel_rfl) rfl trivial (fun _ _ _ h => by cases h.1) hM (fun w hC => r_build hl rfl zero24 bld24 (by simp only [fillL, setL, List.getElem?_cons_zero, List.getElem?_cons_succ, Value.cells, List.take_zero, List.take_succ_cons, List.take_nil, List.drop_zero, List.drop_succ_cons, List.drop_nil, List.length_cons, List.length_nil, List.cons_append, List.nil_append, List.append_nil, Nat.zero_add, Nat.add_zero, Nat.reduceAdd, Nat.reduceBEq, Nat.reduceEqDiff, Nat.ble, BEq.rfl, Bool.and_true, Bool.and_self, cond_true, beq_self_eq_true]; rfl)) rfl ?_
            clear hl a; intro a hl
            refine d_take (i := 18) hl rfl (by kernel_rfl) (by kernel_rfl) (by kernel_rfl) (by kernel_rfl) (by kernel_rfl) rfl trivial (fun _ _ _ h => by cases h.1) hM (fun w hC => r_build hl rfl zero27 bld27 (by simp only [fillL, setL, List.getElem?_cons_zero, List.getElem?_cons_succ, Value.cells, List.take_zero, List.take_succ_cons, List.take_nil, List.drop_zero, List.drop_succ_cons, List.drop_nil, List.length_cons, List.length_nil, List.cons_append, List.nil_append, List.append_nil, Nat.zero_add, Nat.add_zero, Nat.reduceAdd, Nat.reduceBEq, Nat.reduceEqDiff, Nat.ble, BEq.rfl, Bool.and_true, Bool.and_self, cond_true, beq_self_eq_true]; rfl)) rfl ?_
            clear hl a; intro a hl
            refine d_one (i := 20) (by kernel_rfl) rfl ?_
            try clear hM
            refine id (w_storeA hl hh trivial agg27 rfl rfl (by repeat (first | exact find_head | apply find_tail)) (by first | rfl | (simp; done)) (by first | (simp; done) | (simp; omega)) (by first | rfl | (simp; done) | exact all4 hkl | exact all3 rfl hone2) (by first | (simp only [setL, List.getElem?_cons_zero, List.getElem?_cons_succ, Value.cells, List.take_zero, List.take_succ_cons, List.take_nil, List.drop_zero, List.drop_succ_cons, List.drop_nil, List.length_cons, List.length_nil, List.cons_append, List.nil_append, List.append_nil, Nat.zero_add, Nat.add_zero, Nat.reduceAdd, Nat.reduceBEq, Nat.reduceEqDiff, Nat.ble, BEq.rfl, Bool.and_true, Bool.and_self, cond_true, beq_self_eq_true]; rfl)) ?_)
            clear hh w; intro w hh
            refine d_step (fun h => absurd h (by decide)) ?_
            refine d_done (by kernel_rfl) ?_
            try clear hM
            exact ⟨rfl, k7, k52, jk52, qp, qc, hjk52, hl.addE (t := 2) (hl.addE (t := 4) (hl.addE (t := 5) (hl.addE (t := 7) (hl.nil) rfl (by first | rfl)) rfl (by first | rfl)) rfl (by first | rfl)) rfl (by first | rfl), hh.keep (by repeat (first | exact keeps_nil | apply keeps_cons (by repeat (first | exact find_head | apply find_tail)) (by first  | rfl) | exact keeps_self | exact keeps_left | exact keeps_right | exact keeps_swap | apply keeps_mv))⟩
        ·
          try clear hM
          refine id (w_alloc hl hh rfl trivial zero27 rfl ?_)
          clear hl hh a w; intro k7 a w hl hh
          have hM : Mem [(X.sb, C [.string X.hs, X.hv, .slice (some ⟨X.bb, 0, none⟩) X.n X.n, .int .i64 (X.vs : Int), .slice (some ⟨X.ob, 0, none⟩) X.vs X.vs] 44)] w := (by repeat (first | exact Mem.nil | refine Mem.cons hh.mem (by repeat (first | exact find_head | apply find_tail)) ?_ | refine Mem.consR hh (by assumption) (by simp) ?_))
          refine d_step (fun _ => hM) ?_
          refine d_two (i := 10) (j := 17) (by kernel_rfl) rfl rfl ?_ ?_
          ·
            try clear hM
            refine id (w_call hl hh rfl trivial rfl cal6 rfl (read_keep k5 0 k22 X.vs [.int .u64 0, .slice (some ⟨k22, 0, none⟩) X.vs X.vs, .int .i64 0] 47 (List.replicate X.vs (-1)) [] 0 [] (some ⟨hb, 0, none⟩) 0 [(hb, C [] 30)] (.inr ⟨hb, 0, [], rfl, rfl, rfl, Nat.le_refl _, rfl⟩) (fun z hz => by rw [List.mem_singleton] at hz; subst hz; exact ⟨own_ne (l1 := []) (t1 := 30) hh (by simp [hhb]) (Find.mem (by repeat (first | exact find_head | apply find_tail))) (by decide), own_ne (l1 := []) (t1 := 30) hh (by simp [hhb]) (Find.mem (by repeat (first | exact find_head | apply find_tail))) (by decide)⟩) (by rw [List.length_replicate]; rfl) rfl (fun v hv => by cases hv) (by rw [List.length_replicate]; omega) (by simp) ⟨Int.le_refl _, by decide⟩) (by repeat (first | exact keeps_nil | apply keeps_cons (by repeat (first | exact find_head | apply find_tail)) (by first | simp only [List.append_nil] | rfl) | exact keeps_self | exact keeps_left | exact keeps_right | exact keeps_swap | apply keeps_mv)) (fun b o m => by rw [List.mem_singleton] at m; cases m; exact hh.mem _ _ (by simp [hhb])) ?_)
            clear hl hh a w; intro vc Fc a w hR hl hh
            obtain ⟨Er, hRr, _, rfl⟩ := hR
            try simp only [List.cons_append, List.nil_append] at hh
            simp only [List.append_nil] at hh
            obtain ⟨qp, qc, hqv⟩ := row_val hRr
            subst hqv
            rw [show rdP (List.replicate X.vs (-1)) 0 [] = (List.replicate X.vs (-1), 0, []) from rfl] at hh
            replace hh := has_drop2 hh
            simp only [setL, List.length_nil] at hl hh
            have hM : Mem [(X.sb, C [.string X.hs, X.hv, .slice (some ⟨X.bb, 0, none⟩) X.n X.n, .int .i64 (X.vs : Int), .slice (some ⟨X.ob, 0, none⟩) X.vs X.vs] 44)] w := (by repeat (first | exact Mem.nil | refine Mem.cons hh.mem (by repeat (first | exact find_head | apply find_tail)) ?_ | refine Mem.consR hh (by assumption) (by simp) ?_))
            refine d_step (fun _ => hM) ?_
            refine d_take (i := 11) hl rfl (by kernel_rfl) (by kernel_rfl) (by kernel_rfl) (by kernel_rfl) (by kernel_rfl) rfl trivial (fun _ _ _ h => by cases h.1) hM (fun w hC => r_build hl rfl zero24 bld24 (by simp only [fillL, setL, List.getElem?_cons_zero, List.getElem?_cons_succ, Value.cells, List.take_zero, List.take_succ_cons, List.take_nil, List.drop_zero, List.drop_succ_cons, List.drop_nil, List.length_cons, List.length_nil, List.cons_append, List.nil_append, List.append_nil, Nat.zero_add, Nat.add_zero, Nat.reduceAdd, Nat.reduceBEq, Nat.reduceEqDiff, Nat.ble, BEq.rfl, Bool.and_true, Bool.and_self, cond_true, beq_self_eq_true]; rfl)) rfl ?_
            clear hl a; intro a hl
            refine d_one (i := 17) (by kernel_rfl) rfl ?_
            try clear hM
            refine id (w_makeSlice0 hl hh rfl trivial app25 rfl rfl (by omega) (by decide) ?_)
            clear hl hh a w; intro k52 jk52 a w hjk52 hl hh
            have hM : Mem [(X.sb, C [.string X.hs, X.hv, .slice (some ⟨X.bb, 0, none⟩) X.n X.n, .int .i64 (X.vs : Int), .slice (some ⟨X.ob, 0, none⟩) X.vs X.vs] 44)] w := (by repeat (first | exact Mem.nil | refine Mem.cons hh.mem (by repeat (first | exact find_head | apply find_tail)) ?_ | refine Mem.consR hh (by assumption) (by simp) ?_))
            refine d_step (fun _ => hM) ?_
            refine d_take (i := 18) hl rfl (by kernel_rfl) (by kernel_rfl) (by kernel_rfl) (by kernel_rfl) (by kernel_rfl) rfl trivial (fun _ _ _ h => by cases h.1) hM (fun w hC => r_build hl rfl zero27 bld27 (by simp only [fillL, setL, List.getElem?_cons_zero, List.getElem?_cons_succ, Value.cells, List.take_zero, List.take_succ_cons, List.take_nil, List.drop_zero, List.drop_succ_cons, List.drop_nil, List.length_cons, List.length_nil, List.cons_append, List.nil_append, List.append_nil, Nat.zero_add, Nat.add_zero, Nat.reduceAdd, Nat.reduceBEq, Nat.reduceEqDiff, Nat.ble, BEq.rfl, Bool.and_true, Bool.and_self, cond_true, beq_self_eq_true]; rfl)) rfl ?_
            clear hl a; intro a hl
            refine d_one (i := 20) (by kernel_rfl) rfl ?_
            try clear hM
            refine id (w_storeA hl hh trivial agg27 rfl rfl (by repeat (first | exact find_head | apply find_tail)) (by first | rfl | (simp; done)) (by first | (simp; done) | (simp; omega)) (by first | rfl | (simp; done) | exact all4 hkl | exact all3 rfl hone2) (by first | (simp only [setL, List.getElem?_cons_zero, List.getElem?_cons_succ, Value.cells, List.take_zero, List.take_succ_cons, List.take_nil, List.drop_zero, List.drop_succ_cons, List.drop_nil, List.length_cons, List.length_nil, List.cons_append, List.nil_append, List.append_nil, Nat.zero_add, Nat.add_zero, Nat.reduceAdd, Nat.reduceBEq, Nat.reduceEqDiff, Nat.ble, BEq.rfl, Bool.and_true, Bool.and_self, cond_true, beq_self_eq_true]; rfl)) ?_)
            clear hh w; intro w hh
            refine d_step (fun h => absurd h (by decide)) ?_
            refine d_done (by kernel_rfl) ?_
            try clear hM
            exact ⟨rfl, k7, k52, jk52, qp, qc, hjk52, hl.addE (t := 2) (hl.addE (t := 4) (hl.addE (t := 5) (hl.addE (t := 7) (hl.nil) rfl (by first | rfl)) rfl (by first | rfl)) rfl (by first | rfl)) rfl (by first | rfl), hh.keep (by repeat (first | exact keeps_nil | apply keeps_cons (by repeat (first | exact find_head | apply find_tail)) (by first  | rfl) | exact keeps_self | exact keeps_left | exact keeps_right | exact keeps_swap | apply keeps_mv))⟩
          ·
            try clear hM
            refine id (w_makeSlice0 hl hh rfl trivial app25 rfl rfl (by omega) (by decide) ?_)
            clear hl hh a w; intro k52 jk52 a w hjk52 hl hh
            have hM : Mem [(X.sb, C [.string X.hs, X.hv, .slice (some ⟨X.bb, 0, none⟩) X.n X.n, .int .i64 (X.vs : Int), .slice (some ⟨X.ob, 0, none⟩) X.vs X.vs] 44)] w := (by repeat (first | exact Mem.nil | refine Mem.cons hh.mem (by repeat (first | exact find_head | apply find_tail)) ?_ | refine Mem.consR hh (by assumption) (by simp) ?_))
            refine d_step (fun _ => hM) ?_
            refine d_one (i := 10) (by kernel_rfl) rfl ?_
            try clear hM
            refine id (w_call hl hh rfl trivial rfl cal6 rfl (read_keep k5 0 k22 X.vs [.int .u64 0, .slice (some ⟨k22, 0, none⟩) X.vs X.vs, .int .i64 0] 47 (List.replicate X.vs (-1)) [] 0 [] (some ⟨hb, 0, none⟩) 0 [(hb, C [] 30)] (.inr ⟨hb, 0, [], rfl, rfl, rfl, Nat.le_refl _, rfl⟩) (fun z hz => by rw [List.mem_singleton] at hz; subst hz; exact ⟨own_ne (l1 := []) (t1 := 30) hh (by simp [hhb]) (Find.mem (by repeat (first | exact find_head | apply find_tail))) (by decide), own_ne (l1 := []) (t1 := 30) hh (by simp [hhb]) (Find.mem (by repeat (first | exact find_head | apply find_tail))) (by decide)⟩) (by rw [List.length_replicate]; rfl) rfl (fun v hv => by cases hv) (by rw [List.length_replicate]; omega) (by simp) ⟨Int.le_refl _, by decide⟩) (by repeat (first | exact keeps_nil | apply keeps_cons (by repeat (first | exact find_head | apply find_tail)) (by first | simp only [List.append_nil] | rfl) | exact keeps_self | exact keeps_left | exact keeps_right | exact keeps_swap | apply keeps_mv)) (fun b o m => by rw [List.mem_singleton] at m; cases m; exact hh.mem _ _ (by simp [hhb])) ?_)
            clear hl hh a w; intro vc Fc a w hR hl hh
            obtain ⟨Er, hRr, _, rfl⟩ := hR
            try simp only [List.cons_append, List.nil_append] at hh
            simp only [List.append_nil] at hh
            obtain ⟨qp, qc, hqv⟩ := row_val hRr
            subst hqv
            rw [show rdP (List.replicate X.vs (-1)) 0 [] = (List.replicate X.vs (-1), 0, []) from rfl] at hh
            replace hh := has_drop2 hh
            simp only [setL, List.length_nil] at hl hh
            have hM : Mem [(X.sb, C [.string X.hs, X.hv, .slice (some ⟨X.bb, 0, none⟩) X.n X.n, .int .i64 (X.vs : Int), .slice (some ⟨X.ob, 0, none⟩) X.vs X.vs] 44)] w := (by repeat (first | exact Mem.nil | refine Mem.cons hh.mem (by repeat (first | exact find_head | apply find_tail)) ?_ | refine Mem.consR hh (by assumption) (by simp) ?_))
            refine d_step (fun _ => hM) ?_
            refine d_take (i := 11) hl rfl (by kernel_rfl) (by kernel_rfl) (by kernel_rfl) (by kernel_rfl) (by kernel_rfl) rfl trivial (fun _ _ _ h => by cases h.1) hM (fun w hC => r_build hl rfl zero24 bld24 (by simp only [fillL, setL, List.getElem?_cons_zero, List.getElem?_cons_succ, Value.cells, List.take_zero, List.take_succ_cons, List.take_nil, List.drop_zero, List.drop_succ_cons, List.drop_nil, List.length_cons, List.length_nil, List.cons_append, List.nil_append, List.append_nil, Nat.zero_add, Nat.add_zero, Nat.reduceAdd, Nat.reduceBEq, Nat.reduceEqDiff, Nat.ble, BEq.rfl, Bool.and_true, Bool.and_self, cond_true, beq_self_eq_true]; rfl)) rfl ?_
            clear hl a; intro a hl
            refine d_take (i := 18) hl rfl (by kernel_rfl) (by kernel_rfl) (by kernel_rfl) (by kernel_rfl) (by kernel_rfl) rfl trivial (fun _ _ _ h => by cases h.1) hM (fun w hC => r_build hl rfl zero27 bld27 (by simp only [fillL, setL, List.getElem?_cons_zero, List.getElem?_cons_succ, Value.cells, List.take_zero, List.take_succ_cons, List.take_nil, List.drop_zero, List.drop_succ_cons, List.drop_nil, List.length_cons, List.length_nil, List.cons_append, List.nil_append, List.append_nil, Nat.zero_add, Nat.add_zero, Nat.reduceAdd, Nat.reduceBEq, Nat.reduceEqDiff, Nat.ble, BEq.rfl, Bool.and_true, Bool.and_self, cond_true, beq_self_eq_true]; rfl)) rfl ?_
            clear hl a; intro a hl
            refine d_one (i := 20) (by kernel_rfl) rfl ?_
            try clear hM
            refine id (w_storeA hl hh trivial agg27 rfl rfl (by repeat (first | exact find_head | apply find_tail)) (by first | rfl | (simp; done)) (by first | (simp; done) | (simp; omega)) (by first | rfl | (simp; done) | exact all4 hkl | exact all3 rfl hone2) (by first | (simp only [setL, List.getElem?_cons_zero, List.getElem?_cons_succ, Value.cells, List.take_zero, List.take_succ_cons, List.take_nil, List.drop_zero, List.drop_succ_cons, List.drop_nil, List.length_cons, List.length_nil, List.cons_append, List.nil_append, List.append_nil, Nat.zero_add, Nat.add_zero, Nat.reduceAdd, Nat.reduceBEq, Nat.reduceEqDiff, Nat.ble, BEq.rfl, Bool.and_true, Bool.and_self, cond_true, beq_self_eq_true]; rfl)) ?_)
            clear hh w; intro w hh
            refine d_step (fun h => absurd h (by decide)) ?_
            refine d_done (by kernel_rfl) ?_
            try clear hM
            exact ⟨rfl, k7, k52, jk52, qp, qc, hjk52, hl.addE (t := 2) (hl.addE (t := 4) (hl.addE (t := 5) (hl.addE (t := 7) (hl.nil) rfl (by first | rfl)) rfl (by first | rfl)) rfl (by first | rfl)) rfl (by first | rfl), hh.keep (by repeat (first | exact keeps_nil | apply keeps_cons (by repeat (first | exact find_head | apply find_tail)) (by first  | rfl) | exact keeps_self | exact keeps_left | exact keeps_right | exact keeps_swap | apply keeps_mv))⟩
      ·
        clear hl hh a w; intro a w hI
        obtain ⟨k7, k52, jk52, qp, qc, hjk52, hl, hh⟩ := hI
        have hl2 := hl.add (t := 2) (hl.add (t := 4) (hl.add (t := 5) (hl.add (t := 7) (hl.nil) rfl) rfl) rfl) rfl; clear hl; have hl := hl2; clear hl2
        refine then_normal ?_
        refine c_seq ?_
        refine c_region ?_
        refine wl (w_loadA hl hh rfl trivial agg47 rfl (by repeat (first | exact find_head | apply find_tail)) (by first | (simp only [List.getElem?_cons_zero, List.getElem?_cons_succ, Value.cells, List.take_zero, List.take_succ_cons, List.take_nil, List.drop_zero, List.drop_succ_cons, List.drop_nil, List.length_cons, List.length_nil, List.cons_append, List.nil_append, List.append_nil, Nat.zero_add, Nat.add_zero, Nat.reduceAdd, Nat.reduceBEq, Nat.reduceEqDiff, Nat.ble, BEq.rfl, Bool.and_true, Bool.and_self, cond_true, beq_self_eq_true]; rfl)) (by first | rfl | (simp; done)) ?_)
        clear hl a; intro a hl
        refine wl (w_buildSlice hl hh rfl trivial app50 zero47 rfl rfl rfl rfl rfl (by simp only [fillL, arrPl, List.range_succ, List.range_zero, List.map_cons, List.map_nil, List.map_append, List.nil_append, List.replicate_succ, List.replicate_zero, List.flatten_cons, List.flatten_nil, Nat.zero_mul, Nat.mul_one, Nat.one_mul, Nat.reduceMul, setL, List.getElem?_cons_zero, List.getElem?_cons_succ, Value.cells, List.take_zero, List.take_succ_cons, List.take_nil, List.drop_zero, List.drop_succ_cons, List.drop_nil, List.length_cons, List.length_nil, List.cons_append, List.nil_append, List.append_nil, Nat.zero_add, Nat.add_zero, Nat.reduceAdd, Nat.reduceBEq, Nat.reduceEqDiff, Nat.ble, BEq.rfl, Bool.and_true, Bool.and_self, cond_true, beq_self_eq_true]; rfl) ?_)
        clear hl hh a w; intro k55 a w hl hh
        refine wl (wl_val hl rfl trivial (r_assign hl rfl) ?_)
        clear hl a; intro a hl
        refine w_nil ?_
        have hl2 := hl.add (t := 2) (hl.add (t := 4) (hl.add (t := 7) (hl.add (t := 8) (hl.nil) rfl) rfl) rfl) rfl; clear hl; have hl := hl2; clear hl2
        refine then_normal ?_
        refine c_seq ?_
        refine c_seq ?_
        refine c_region ?_
        refine wl (wl_val hl rfl trivial (r_move hl rfl) ?_)
        clear hl a; intro a hl
        refine wl (wl_val hl rfl trivial (r_nilCheck hl rfl) ?_)
        clear hl a; intro a hl
        refine wl (wl_val hl rfl trivial (r_field hl rfl fld44_1) ?_)
        clear hl a; intro a hl
        refine wl (w_load hl hh rfl trivial one25 rfl (by repeat (first | exact find_head | apply find_tail)) (by rfl) ?_)
        clear hl a; intro a hl
        refine wl (wl_val hl rfl trivial (r_lenS hl rfl slc25) ?_)
        clear hl a; intro a hl
        refine wl (wl_val hl rfl trivial (r_move hl rfl) ?_)
        clear hl a; intro a hl
        refine w_nil ?_
        have hl2 := hl.add (t := 2) (hl.add (t := 4) (hl.add (t := 7) (hl.add (t := 8) (hl.add (t := 60) (hl.add (t := 61) (hl.nil) rfl) rfl) rfl) rfl) rfl) rfl; clear hl; have hl := hl2; clear hl2
        refine then_normal ?_
        refine wp_block ?_
        have hh9 : Has _ w0 ((k7, C [.string X.hs, .slice qp 0 qc, .slice (some ⟨k52, 0, none⟩) 0 X.n] 27) :: (k2, C [.string ⟨#[]⟩, .slice none 0 0, .slice none 0 0] 27) :: (k52, C jk52 34) :: (X.sb, C [.string X.hs, X.hv, .slice (some ⟨X.bb, 0, none⟩) X.n X.n, .int .i64 (X.vs : Int), .slice (some ⟨X.ob, 0, none⟩) X.vs X.vs] 44) :: (k55, C [.int .u64 0, .slice (some ⟨k22, 0, none⟩) X.vs X.vs, .int .i64 0] 47) :: (k22, C (fl iI (List.replicate X.vs (-1))) 3) :: E) w := hh.keep (by repeat (first | exact keeps_nil | apply keeps_cons (by repeat (first | exact find_head | apply find_tail)) (by first  | rfl) | exact keeps_self | exact keeps_left | exact keeps_right | exact keeps_swap | apply keeps_mv))
        obtain ⟨T0, hT0⟩ : ∃ T, T = (X.sb, C [.string X.hs, X.hv, .slice (some ⟨X.bb, 0, none⟩) X.n X.n, .int .i64 (X.vs : Int), .slice (some ⟨X.ob, 0, none⟩) X.vs X.vs] 44) :: (k55, C [.int .u64 0, .slice (some ⟨k22, 0, none⟩) X.vs X.vs, .int .i64 0] 47) :: (k22, C (fl iI (List.replicate X.vs (-1))) 3) :: E := ⟨_, rfl⟩
        have hSI0 : SIn X T0 := by rw [hT0]; exact hSI.mono (fun x hx => by rcases List.mem_cons.1 hx with rfl | h; simp; simp [h])
        have hm0 : Mem T0 w := by rw [hT0]; exact fun b o m => hh9.mem b o (by simp at m ⊢; rcases m with h | h | h | h <;> simp [h])
        have hFI0 : FrI X T0 [s0B X.vs k22] k55 [] := fr_start hm0 (by rw [hT0]; simp) (by rw [hT0]; simp)
        rw [← hT0] at hh9
        obtain ⟨U0, hU0⟩ : ∃ U, U = (k52, C jk52 34) :: T0 := ⟨_, rfl⟩
        rw [← hU0] at hh9
        clear hh hm0
        have hh := hh9
        clear hh9
        obtain ⟨KS1, hKS1, hk⟩ := (hl.add (t := 2) (hl.add (t := 4) (hl.add (t := 7) (hl.add (t := 60) (hl.nil) rfl) rfl) rfl) rfl).name
        obtain ⟨HS1, hHS1, hh2⟩ := hh.nameT (A := [(k7, C [.string X.hs, .slice qp 0 qc, .slice (some ⟨k52, 0, none⟩) 0 X.n] 27)]) (U := U0) (keeps_cons (b := k7) (o' := C [.string X.hs, .slice qp 0 qc, .slice (some ⟨k52, 0, none⟩) 0 X.n] 27) (by repeat (first | exact find_head | apply find_tail)) (by first | rfl | rfl) ((by repeat (first | exact keeps_nil | exact keeps_self | exact keeps_swap | apply keeps_mv))))
        refine c_loop (α := CS) (fun s => X.n - s.r) (fun s a w => (CSI X [(0, List.replicate (mAt body n) (-1), 0)] s) ∧ Sl 85 ([(61, .int .i64 (s.r : Int)), (8, .slice (some ⟨s.fb, 0, none⟩) s.bs.length s.cap)] ++ KS1) a ∧ Has _ w0 ([(k7, C [.string X.hs, .slice qp 0 qc, s.ov] 27)] ++ (HS1 ++ s.tail)) w) ⟨0, [s0B X.vs k22], k55, 1, [], .slice (some ⟨k52, 0, none⟩) 0 X.n, [(k52, C jk52 34)], [], T0⟩ ⟨⟨Nat.zero_le _, hSI0, hFI0, frj_start, (by simp), .inr ⟨k52, X.n, jk52, rfl, rfl, hjk52, Nat.zero_le _, rfl⟩, (by rw [s0_core, hXvs]; rfl), (by rw [s0_core, hXvs, hXn]; exact hok0 X hXb hXo hXn)⟩, hl.addE (t := 61) (hl.addE (t := 8) (hk) rfl (by first | rfl)) rfl (by first | rfl), (by rw [hU0] at hh2; exact hh2)⟩ ?_
        clear hk hh2 hl hh a w hSI
        intro s a w hI
        obtain ⟨hI, hl, hh⟩ := hI
        subst hKS1; subst hHS1
        simp only [List.cons_append, List.nil_append, List.append_nil] at hl hh
        obtain ⟨r, bs, fb, cap, jf, ov, Eo, xs, T⟩ := s
        obtain ⟨hr, hSI, hFI, hFJ, hbl, hrow, hcd, hok⟩ := hI
        unfold CS.tail at hh
        simp only at hl hh hr hSI hFI hFJ hbl hrow hcd hok
        have hone2 := hrow.one
        obtain ⟨op, oc, hov⟩ := row_val hrow
        subst hov
        refine c_seq ?_
        refine c_region ?_
        refine wl (wl_val hl rfl trivial (r_lss hl rfl rfl) ?_)
        clear hl a; intro a hl
        refine w_nil ?_
        have hl2 := hl.add (t := 2) (hl.add (t := 4) (hl.add (t := 7) (hl.add (t := 8) (hl.add (t := 60) (hl.add (t := 61) (hl.add (t := 62) (hl.nil) rfl) rfl) rfl) rfl) rfl) rfl) rfl; clear hl; have hl := hl2; clear hl2
        refine then_normal ?_
        refine c_seq ?_
        refine c_cond hl rfl ?_ ?_
        · intro hc2
          try simp only [decide_eq_true_eq, decide_eq_false_iff_not, Bool.not_eq_true', Bool.not_eq_false', Bool.not_eq_true, Bool.not_eq_false, Bool.and_eq_true, Bool.or_eq_true, Bool.and_eq_false_iff, Bool.or_eq_false_iff, Bool.not_not, ne_eq, Int.not_lt, Int.not_le, Decidable.not_not, beq_iff_eq, bne_iff_ne] at hc2
          skip
          refine wp_skip ?_
          refine then_normal ?_
          refine c_seq ?_
          refine wp_block ?_
          refine c_seq ?_
          refine c_region ?_
          refine wl (wl_val hl rfl trivial (r_move hl rfl) ?_)
          clear hl a; intro a hl
          refine wl (wl_val hl rfl trivial (r_move hl rfl) ?_)
          clear hl a; intro a hl
          refine wl (w_call hl hh rfl trivial rfl cal7 rfl (least_spec X T hSI bs fb cap jf hFI (by omega)) (by repeat (first | exact keeps_nil | apply keeps_cons (by repeat (first | exact find_head | apply find_tail)) (by first  | rfl) | exact keeps_self | exact keeps_left | exact keeps_right | exact keeps_swap | apply keeps_mv)) (fun b o m => hh.mem b o (by repeat (first | exact m | exact List.mem_append_left _ m | exact List.mem_append_right _ m | apply List.mem_cons_of_mem))) ?_)
          clear hl hh a w; intro vc Fc a w hR hl hh
          obtain ⟨pv, kl, ks, Ep, E9, hRp, hkl, rfl, rfl⟩ := hR
          try simp only [List.cons_append, List.nil_append] at hh
          replace hh := has_push (A := [_, _]) hh
          simp only [List.cons_append, List.nil_append] at hh
          obtain ⟨pp, pc, hpv⟩ := row_val hRp
          subst hpv
          obtain ⟨picks, hpk⟩ : ∃ p, p = (outerP X.body X.n (bs.map SB.core) bs.length).2 := ⟨_, rfl⟩
          have hoo := outer_ok (cs := bs.map SB.core) hSI.nl bs.length (by rw [List.length_map]; exact Nat.le_refl _)
          rw [← hpk] at hRp hl hoo
          have hpl : picks.length ≤ 100000 := by have := Nat.mul_le_mul hbl hSI.n64; omega
          refine wl (wl_val hl rfl trivial (r_move hl rfl) ?_)
          clear hl a; intro a hl
          refine wl (wl_val hl rfl trivial (r_extract hl rfl (by simp only [List.getElem?_toArray, List.getElem?_cons_zero, List.getElem?_cons_succ]; rfl)) ?_)
          clear hl a; intro a hl
          refine wl (wl_val hl rfl trivial (r_extract hl rfl (by simp only [List.getElem?_toArray, List.getElem?_cons_zero, List.getElem?_cons_succ]; rfl)) ?_)
          clear hl a; intro a hl
          refine wl (w_alloc hl hh rfl trivial zero34 rfl ?_)
          clear hl hh a w; intro k9 a w hl hh
          refine wl (w_storeA hl hh trivial agg34 rfl rfl (by repeat (first | exact find_head | apply find_tail)) (by first | rfl | (simp; done)) (by first | (simp; done) | (simp; omega)) (by first | rfl | (simp; done) | exact all4 hkl | exact all3 rfl hone2) (by first | (simp only [setL, List.getElem?_cons_zero, List.getElem?_cons_succ, Value.cells, List.take_zero, List.take_succ_cons, List.take_nil, List.drop_zero, List.drop_succ_cons, List.drop_nil, List.length_cons, List.length_nil, List.cons_append, List.nil_append, List.append_nil, Nat.zero_add, Nat.add_zero, Nat.reduceAdd, Nat.reduceBEq, Nat.reduceEqDiff, Nat.ble, BEq.rfl, Bool.and_true, Bool.and_self, cond_true, beq_self_eq_true]; rfl)) ?_)
          clear hh w; intro w hh
          refine wl (wl_val hl rfl trivial (r_assign hl rfl) ?_)
          clear hl a; intro a hl
          refine w_nil ?_
          have hl2 := hl.add (t := 2) (hl.add (t := 4) (hl.add (t := 7) (hl.add (t := 8) (hl.add (t := 9) (hl.add (t := 10) (hl.add (t := 60) (hl.add (t := 61) (hl.nil) rfl) rfl) rfl) rfl) rfl) rfl) rfl) rfl; clear hl; have hl := hl2; clear hl2
          refine then_normal ?_
          refine c_seq ?_
          refine c_region ?_
          refine wl (wl_val hl rfl trivial (r_field hl rfl fld27_1) ?_)
          clear hl a; intro a hl
          refine wl (w_load hl hh rfl trivial one25 rfl (by repeat (first | exact find_head | apply find_tail)) (by first | rfl) ?_)
          clear hl a; intro a hl
          refine wl (w_loadA hl hh rfl trivial agg34 rfl (by repeat (first | exact find_head | apply find_tail)) (by first | (simp only [List.getElem?_cons_zero, List.getElem?_cons_succ, Value.cells, List.take_zero, List.take_succ_cons, List.take_nil, List.drop_zero, List.drop_succ_cons, List.drop_nil, List.length_cons, List.length_nil, List.cons_append, List.nil_append, List.append_nil, Nat.zero_add, Nat.add_zero, Nat.reduceAdd, Nat.reduceBEq, Nat.reduceEqDiff, Nat.ble, BEq.rfl, Bool.and_true, Bool.and_self, cond_true, beq_self_eq_true]; rfl)) (by first | rfl | (simp; done)) ?_)
          clear hl a; intro a hl
          refine wl (w_buildSlice hl hh rfl trivial app25 zero34 rfl rfl rfl rfl rfl (by simp only [fillL, arrPl, List.range_succ, List.range_zero, List.map_cons, List.map_nil, List.map_append, List.nil_append, List.replicate_succ, List.replicate_zero, List.flatten_cons, List.flatten_nil, Nat.zero_mul, Nat.mul_one, Nat.one_mul, Nat.reduceMul, setL, List.getElem?_cons_zero, List.getElem?_cons_succ, Value.cells, List.take_zero, List.take_succ_cons, List.take_nil, List.drop_zero, List.drop_succ_cons, List.drop_nil, List.length_cons, List.length_nil, List.cons_append, List.nil_append, List.append_nil, Nat.zero_add, Nat.add_zero, Nat.reduceAdd, Nat.reduceBEq, Nat.reduceEqDiff, Nat.ble, BEq.rfl, Bool.and_true, Bool.and_self, cond_true, beq_self_eq_true]; rfl) ?_)
          clear hl hh a w; intro k72 a w hl hh
          refine wl (w_append (news := [.int .u8 0, .int .u8 0, .string ks, kl]) hl hh rfl trivial app25 rfl rfl rfl hrow (by repeat (first | exact keeps_left | apply keeps_mv)) (hh.mem _ _ (Find.mem (by repeat (first | exact find_head | apply find_tail)))) rfl rfl (all4 hkl) (by omega) (by omega) (by omega) (by decide) ?_)
          clear hl hh a w; intro rv2 E2 a w hR2 hl hh
          have hh3 := hh.comm; clear hh; have hh := hh3; clear hh3
          simp only [List.cons_append, List.nil_append] at hh
          refine wl (wl_val hl rfl trivial (r_field hl rfl fld27_1) ?_)
          clear hl a; intro a hl
          refine wl (w_store hl hh trivial one25 rfl rfl (by repeat (first | exact find_head | apply find_tail)) (by first | (simp; done) | (simp; omega)) (by first | rfl | assumption | (apply Row.one; assumption)) (by first | (simp only [setL, List.getElem?_cons_zero, List.getElem?_cons_succ, Value.cells, List.take_zero, List.take_succ_cons, List.take_nil, List.drop_zero, List.drop_succ_cons, List.drop_nil, List.length_cons, List.length_nil, List.cons_append, List.nil_append, List.append_nil, Nat.zero_add, Nat.add_zero, Nat.reduceAdd, Nat.reduceBEq, Nat.reduceEqDiff, Nat.ble, BEq.rfl, Bool.and_true, Bool.and_self, cond_true, beq_self_eq_true]; rfl)) ?_)
          clear hh w; intro w hh
          refine w_nil ?_
          have hl2 := hl.add (t := 2) (hl.add (t := 4) (hl.add (t := 7) (hl.add (t := 8) (hl.add (t := 10) (hl.add (t := 60) (hl.add (t := 61) (hl.nil) rfl) rfl) rfl) rfl) rfl) rfl) rfl; clear hl; have hl := hl2; clear hl2
          refine then_normal ?_
          refine c_seq ?_
          refine c_region ?_
          refine wl (wl_val hl rfl trivial (r_move hl rfl) ?_)
          clear hl a; intro a hl
          refine wl (wl_val hl rfl trivial (r_move hl rfl) ?_)
          clear hl a; intro a hl
          refine wl (wl_val hl rfl trivial (r_move hl rfl) ?_)
          clear hl a; intro a hl
          refine wl (w_call hl hh rfl trivial rfl cal8 rfl (follow_spec X (T ++ (Ep ++ E9)) (hSI.mono fun x hx => List.mem_append_left _ hx) bs fb cap jf (hFI.mono fun x hx => List.mem_append_left _ hx) r hFJ (by omega) (by omega) picks pp pc Ep hRp (fun x hx => List.mem_append_right _ (List.mem_append_left _ hx)) hpl hoo.1) (by repeat (first | exact keeps_nil | apply keeps_cons (by repeat (first | exact find_head | apply find_tail)) (by first  | rfl) | exact keeps_self | exact keeps_left | exact keeps_right | exact keeps_swap | apply keeps_mv)) (fun b o m => hh.mem b o (by repeat (first | exact m | exact List.mem_append_left _ m | exact List.mem_append_right _ m | apply List.mem_cons_of_mem))) ?_)
          clear hl hh a w; intro vc Fc a w hR hl hh
          obtain ⟨nbs, En, Es, hco, hnl, hRn, hbk, hokn, hfj2, rfl⟩ := hR
          try simp only [List.cons_append, List.nil_append] at hh
          replace hh := has_fin (A := [_, _, _, _]) hh
          simp only [List.cons_append, List.nil_append] at hh
          obtain ⟨np, ncap, hnv⟩ := row_val hRn
          subst hnv
          have hrd : nbs.map SB.core = roundP X (bs.map SB.core) := by rw [hco, hpk]; unfold roundP; rw [List.length_map]
          obtain ⟨hnn, hokN⟩ := ok_on (r := X.n - (r + 1)) (by omega) hrd hok
          have hn0 : 0 < nbs.length := by rcases Nat.eq_zero_or_pos nbs.length with h | h; exact absurd (by rw [List.eq_nil_of_length_eq_zero h]; rfl) hnn; exact h
          obtain ⟨fb2, jf2, hfp, _, _, hEn⟩ := row_pos hRn hn0
          subst hfp
          have hFI2 : FrI X ((T ++ (Ep ++ E9)) ++ (En ++ Es)) nbs fb2 jf2 := fr_next (w := w) (fun b o m => hh.mem b o (by repeat (first | exact m | exact List.mem_append_left _ m | exact List.mem_append_right _ m | apply List.mem_cons_of_mem))) hEn hbk hokn
          refine wl (wl_val hl rfl trivial (r_assign hl rfl) ?_)
          clear hl a; intro a hl
          refine w_nil ?_
          have hl2 := hl.add (t := 2) (hl.add (t := 4) (hl.add (t := 7) (hl.add (t := 8) (hl.add (t := 60) (hl.add (t := 61) (hl.nil) rfl) rfl) rfl) rfl) rfl) rfl; clear hl; have hl := hl2; clear hl2
          refine then_normal ?_
          refine c_seq ?_
          refine c_region ?_
          refine wl (wl_val hl rfl trivial (r_move hl rfl) ?_)
          clear hl a; intro a hl
          refine wl (wl_val hl rfl trivial (r_lenS hl rfl slc50) ?_)
          clear hl a; intro a hl
          refine wl (wl_val hl rfl trivial (r_gtr hl rfl rfl) ?_)
          clear hl a; intro a hl
          refine w_nil ?_
          have hl2 := hl.add (t := 2) (hl.add (t := 4) (hl.add (t := 7) (hl.add (t := 8) (hl.add (t := 60) (hl.add (t := 61) (hl.add (t := 81) (hl.nil) rfl) rfl) rfl) rfl) rfl) rfl) rfl; clear hl; have hl := hl2; clear hl2
          refine then_normal ?_
          refine c_cond hl rfl ?_ ?_
          · intro hc3
            try simp only [decide_eq_true_eq, decide_eq_false_iff_not, Bool.not_eq_true', Bool.not_eq_false', Bool.not_eq_true, Bool.not_eq_false, Bool.and_eq_true, Bool.or_eq_true, Bool.and_eq_false_iff, Bool.or_eq_false_iff, Bool.not_not, ne_eq, Int.not_lt, Int.not_le, Decidable.not_not, beq_iff_eq, bne_iff_ne] at hc3
            skip
            refine c_seq ?_
            refine c_region ?_
            refine wl (wl_val hl rfl trivial (r_build hl rfl zero27 bld27 (by simp only [fillL, setL, List.getElem?_cons_zero, List.getElem?_cons_succ, Value.cells, List.take_zero, List.take_succ_cons, List.take_nil, List.drop_zero, List.drop_succ_cons, List.drop_nil, List.length_cons, List.length_nil, List.cons_append, List.nil_append, List.append_nil, Nat.zero_add, Nat.add_zero, Nat.reduceAdd, Nat.reduceBEq, Nat.reduceEqDiff, Nat.ble, BEq.rfl, Bool.and_true, Bool.and_self, cond_true, beq_self_eq_true]; rfl)) ?_)
            clear hl a; intro a hl
            refine wl (w_storeA hl hh trivial agg27 rfl rfl (by repeat (first | exact find_head | apply find_tail)) (by first | rfl | (simp; done)) (by first | (simp; done) | (simp; omega)) (by first | rfl | (simp; done) | exact all4 hkl | exact all3 rfl hone2) (by first | (simp only [setL, List.getElem?_cons_zero, List.getElem?_cons_succ, Value.cells, List.take_zero, List.take_succ_cons, List.take_nil, List.drop_zero, List.drop_succ_cons, List.drop_nil, List.length_cons, List.length_nil, List.cons_append, List.nil_append, List.append_nil, Nat.zero_add, Nat.add_zero, Nat.reduceAdd, Nat.reduceBEq, Nat.reduceEqDiff, Nat.ble, BEq.rfl, Bool.and_true, Bool.and_self, cond_true, beq_self_eq_true]; rfl)) ?_)
            clear hh w; intro w hh
            refine wl (wl_val hl rfl trivial (r_assign hl rfl) ?_)
            clear hl a; intro a hl
            refine w_nil ?_
            have hl2 := hl.add (t := 2) (hl.add (t := 3) (hl.nil) rfl) rfl; clear hl; have hl := hl2; clear hl2
            refine then_normal ?_
            refine wp_ret ?_
            refine blk_ret ?_
            refine then_ret ?_
            refine then_ret ?_
            refine blk_ret ?_
            refine then_ret ?_
            refine f_retCT (F' := []) hl hh rfl rfl agg27 (by repeat (first | exact find_head | apply find_tail)) (by first | rfl | exact arrL_length _ _ | (simp; done)) rfl (by repeat (first | exact keeps_nil | apply keeps_cons (by repeat (first | exact find_head | apply find_tail)) (by first  | rfl) | exact keeps_self | exact keeps_left | exact keeps_right | exact keeps_swap | apply keeps_mv)) ?_
            exact ⟨X, _, hXb, hXo, hXn, rfl, rfl, (by have e6 := hcd.trans (code_over (r := X.n - (r + 1)) (by omega) (by rw [← hrd, List.length_map]; omega)); rw [hXn] at e6; rw [e6]), rfl⟩
          · intro hc3
            try simp only [decide_eq_true_eq, decide_eq_false_iff_not, Bool.not_eq_true', Bool.not_eq_false', Bool.not_eq_true, Bool.not_eq_false, Bool.and_eq_true, Bool.or_eq_true, Bool.and_eq_false_iff, Bool.or_eq_false_iff, Bool.not_not, ne_eq, Int.not_lt, Int.not_le, Decidable.not_not, beq_iff_eq, bne_iff_ne] at hc3
            skip
            refine wp_skip ?_
            refine blk_normal ?_
            refine then_normal ?_
            refine c_region ?_
            first | refine wl (wl_val hl rfl trivial (r_add hl rfl rfl (by simp only [Fits]; omega)) ?_) | refine wl (wl_val hl rfl trivial (r_addW hl rfl rfl) ?_)
            clear hl a; intro a hl
            refine wl (wl_val hl rfl trivial (r_move hl rfl) ?_)
            clear hl a; intro a hl
            refine w_nil ?_
            have hl2 := hl.add (t := 2) (hl.add (t := 4) (hl.add (t := 7) (hl.add (t := 8) (hl.add (t := 60) (hl.add (t := 61) (hl.nil) rfl) rfl) rfl) rfl) rfl) rfl; clear hl; have hl := hl2; clear hl2
            refine then_normal ?_
            refine ⟨⟨r + 1, nbs, fb2, ncap, jf2, rv2, E2, xs ++ [.int .u8 0, .int .u8 0, .string ks, kl], (T ++ (Ep ++ E9)) ++ (En ++ Es)⟩, (by simp only; omega), ⟨by simp only; omega, hSI.mono fun x hx => List.mem_append_left _ (List.mem_append_left _ hx), hFI2, hfj2, by simp only; omega, hR2, hcd.trans (code_on (by simp only; omega) hrd (by simp only [List.length_map]; omega)), hokN (by simp only [List.length_map]; omega)⟩, hl.addE (t := 61) (hl.addE (t := 8) (hl.addE (t := 2) (hl.addE (t := 4) (hl.addE (t := 7) (hl.addE (t := 60) (hl.nil) rfl (by first | rfl | rfl)) rfl (by first | rfl | rfl)) rfl (by first | rfl | rfl)) rfl (by first | rfl | rfl)) rfl (by first | rfl | rfl)) rfl (by first | rfl | rfl), hh.keep (by repeat (first | exact keeps_nil | apply keeps_cons (by repeat (first | exact find_head | apply find_tail)) (by first  | rfl) | exact keeps_self | exact keeps_left | exact keeps_right | exact keeps_swap | apply keeps_mv))⟩
        · intro hc2
          try simp only [decide_eq_true_eq, decide_eq_false_iff_not, Bool.not_eq_true', Bool.not_eq_false', Bool.not_eq_true, Bool.not_eq_false, Bool.and_eq_true, Bool.or_eq_true, Bool.and_eq_false_iff, Bool.or_eq_false_iff, Bool.not_not, ne_eq, Int.not_lt, Int.not_le, Decidable.not_not, beq_iff_eq, bne_iff_ne] at hc2
          have hrn : r = X.n := by omega
          refine wp_exit ?_
          refine then_exit ?_
          refine then_exit ?_
          refine blk_exit ?_
          refine then_normal ?_
          refine c_seq ?_
          refine c_region ?_
          refine wl (w_loadA hl hh rfl trivial agg27 rfl (by repeat (first | exact find_head | apply find_tail)) (by first | (simp only [List.getElem?_cons_zero, List.getElem?_cons_succ, Value.cells, List.take_zero, List.take_succ_cons, List.take_nil, List.drop_zero, List.drop_succ_cons, List.drop_nil, List.length_cons, List.length_nil, List.cons_append, List.nil_append, List.append_nil, Nat.zero_add, Nat.add_zero, Nat.reduceAdd, Nat.reduceBEq, Nat.reduceEqDiff, Nat.ble, BEq.rfl, Bool.and_true, Bool.and_self, cond_true, beq_self_eq_true]; rfl)) (by first | rfl | (simp; done)) ?_)
          clear hl a; intro a hl
          refine wl (w_storeA hl hh trivial agg27 rfl rfl (by repeat (first | exact find_head | apply find_tail)) (by first | rfl | (simp; done)) (by first | (simp; done) | (simp; omega)) (by first | rfl | (simp; done) | exact all4 hkl | exact all3 rfl hone2) (by first | (simp only [setL, List.getElem?_cons_zero, List.getElem?_cons_succ, Value.cells, List.take_zero, List.take_succ_cons, List.take_nil, List.drop_zero, List.drop_succ_cons, List.drop_nil, List.length_cons, List.length_nil, List.cons_append, List.nil_append, List.append_nil, Nat.zero_add, Nat.add_zero, Nat.reduceAdd, Nat.reduceBEq, Nat.reduceEqDiff, Nat.ble, BEq.rfl, Bool.and_true, Bool.and_self, cond_true, beq_self_eq_true]; rfl)) ?_)
          clear hh w; intro w hh
          refine wl (wl_val hl rfl trivial (r_assign hl rfl) ?_)
          clear hl a; intro a hl
          refine w_nil ?_
          have hl2 := hl.add (t := 2) (hl.add (t := 3) (hl.nil) rfl) rfl; clear hl; have hl := hl2; clear hl2
          refine then_normal ?_
          refine wp_ret ?_
          refine f_retCT (F' := []) hl hh rfl rfl agg27 (by repeat (first | exact find_head | apply find_tail)) (by first | rfl | exact arrL_length _ _ | (simp; done)) rfl (by repeat (first | exact keeps_nil | apply keeps_cons (by repeat (first | exact find_head | apply find_tail)) (by first  | rfl) | exact keeps_self | exact keeps_left | exact keeps_right | exact keeps_swap | apply keeps_mv)) ?_
          exact ⟨X, _, hXb, hXo, hXn, rfl, (all3 rfl hone2), (by have e6 := hcd; rw [hrn, Nat.sub_self, code_end, hXn] at e6; rw [e6]), rfl⟩
end Go.Proofs.Qxb6500915a

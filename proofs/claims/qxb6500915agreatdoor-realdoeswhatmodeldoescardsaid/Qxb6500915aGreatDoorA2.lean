import Derived.Test.Qxb6500915aGreatDoorA1
import Derived.Test.Qxb6500915aGreatDoorUmd
import Derived.Test.Qxb6500915aGreatDoorByt
import Derived.Test.Qxb6500915aGreatDoorVwg
namespace Go.Proofs.Qxb6500915aGreatDoor
open Go.Eng
set_option linter.unusedVariables false
set_option linter.unusedSimpArgs false
theorem one64 : oneOk Tryz.prog 64 = true := by kernel_rfl
theorem app58 : appOk Tryz.prog 58 3 1 8 = true := by kernel_rfl
theorem zero3 : zeroOk Tryz.prog 3 (.int .i64 0) := by unfold zeroOk; kernel_rfl
theorem slc58 : slcOk Tryz.prog 58 1 = true := by kernel_rfl
theorem cal17 : callable Tryz.prog 17 = true := by kernel_rfl
/-! ## rows of numbers -/
def iI (x : Int) : List Value := [.int .i64 x]
theorem iI_len (x : Int) : (iI x).length = 1 := rfl
theorem iI_one (x : Int) : (iI x).all (·.oneCell') = true := rfl
theorem fl_one1 {α : Type} {f : α → List Value} (h : ∀ x, (f x).all (·.oneCell') = true) : ∀ l : List α, (fl f l).all (·.oneCell') = true
  | [] => rfl
  | x :: l => by rw [fl_cons, List.all_append, h x, fl_one1 h l]; rfl
theorem fl_app {α : Type} {f : α → List Value} (l m : List α) : fl f (l ++ m) = fl f l ++ fl f m := by unfold fl; rw [List.map_append, List.flatten_append]
theorem fl_sing {α : Type} {f : α → List Value} (x : α) : fl f [x] = f x := by unfold fl; simp
theorem fl_cell1 {α : Type} {f : α → List Value} {g : α → Value} (h : ∀ x, f x = [g x]) {l : List α} {i : Nat} {c : α} (hi : l[i]? = some c) (junk : List Value) : (fl f l ++ junk)[0 + i * 1]? = some (g c) := by
  have := fl_at (f := f) (s := 1) (fun x => by rw [h]; rfl) hi junk
  rw [h] at this
  have h2 := congrArg (fun z : List Value => z[0]?) this
  simpa using h2
theorem fs0 {l : List Int} {c : Int} {i : Nat} (h : i < l.length) : setL (fl iI l) (0 + i * 1) [.int .i64 c] = fl iI (l.set i c) := by
  have := fl_set iI_len l c [] i h
  rw [List.append_nil, List.append_nil] at this; exact this
theorem fc0 {l : List Int} {c : Int} {i : Nat} (h : l[i]? = some c) : (fl iI l)[0 + i * 1]? = some (.int .i64 c) := by
  have := fl_cell1 (f := iI) (g := .int .i64) (fun _ => rfl) h []
  rw [List.append_nil] at this; exact this
theorem fn0 {l : List Int} {i : Nat} (h : i < l.length) : 0 + i * 1 + 1 ≤ (fl iI l).length := by rw [fl_len iI_len]; omega
theorem fm0 {l : List Int} {i : Nat} (h : i < l.length) : 0 + i * 1 < (fl iI l).length := by rw [fl_len iI_len]; omega
theorem zeros_eq {n : Nat} {jk : List Value} (h : jk.length = n * 1 ∧ ∀ j, j < n * 1 → jk[j]? = some ((Value.int .i64 0).cells[j % 1]!)) : jk = fl iI (List.replicate n 0) := by
  refine List.ext_getElem? fun i => ?_
  by_cases hi : i < n
  · rw [h.2 i (by omega)]
    have := fl_cell1 (f := iI) (g := .int .i64) (fun _ => rfl) (l := List.replicate n (0 : Int)) (i := i) (c := 0) (by rw [List.getElem?_replicate, if_pos hi]) []
    rw [List.append_nil] at this
    rw [show 0 + i * 1 = i by omega] at this
    rw [this, Nat.mod_one]; rfl
  · rw [List.getElem?_eq_none (by omega), List.getElem?_eq_none (by rw [fl_len iI_len, List.length_replicate]; omega)]
/-- the numbers up to i, then what was there -/
def ints (n : Nat) : List Int := (List.range n).map (fun (j : Nat) => (j : Int))
theorem ints_len (n : Nat) : (ints n).length = n := by unfold ints; simp
def upTo (n i : Nat) : List Int := ints i ++ List.replicate (n - i) 0
theorem upTo_len {n i : Nat} (h : i ≤ n) : (upTo n i).length = n := by unfold upTo; rw [List.length_append, ints_len, List.length_replicate]; omega
theorem upTo_set {n i : Nat} (h : i < n) : (upTo n i).set i (i : Int) = upTo n (i + 1) := by
  unfold upTo ints
  have e : n - i = (n - (i + 1)) + 1 := by omega
  rw [e, List.replicate_succ, List.range_succ, List.map_append, List.set_append]
  simp
theorem upTo_end (n : Nat) : upTo n n = ints n := by unfold upTo; simp
theorem upTo_0 (n : Nat) : upTo n 0 = List.replicate n 0 := by unfold upTo ints; simp
theorem swap_perm {l : List Int} {i j : Nat} {x y : Int} (hi : l[i]? = some x) (hj : l[j]? = some y) : ((l.set i y).set j x).Perm l := by
  obtain ⟨h1, rfl⟩ := List.getElem?_eq_some_iff.1 hi
  obtain ⟨h2, rfl⟩ := List.getElem?_eq_some_iff.1 hj
  rw [List.perm_iff_count]
  intro z
  rw [List.count_set (by simpa using h2), List.count_set h1]
  by_cases e : i = j
  · subst e
    by_cases c : l[i] = z
    · subst c
      have h3 := List.count_pos_iff.2 (List.getElem_mem h1)
      simp; try omega
    · simp [c]
  · have hne : (l.set i l[j])[j]'(by simpa using h2) = l[j] := by rw [List.getElem_set, if_neg e]
    rw [hne]
    have h3 := List.count_pos_iff.2 (List.getElem_mem h1)
    have h4 := List.count_pos_iff.2 (List.getElem_mem h2)
    by_cases c1 : l[i] = z <;> by_cases c2 : l[j] = z <;> simp [c1, c2] <;> (try subst c1) <;> (try subst c2) <;> omega
structure DZ where
  i : Nat
  x : Int
  l : List Int
/-! ## the variables of a rule -/
def nvS (vs : List Int) (t : Tm) : List Int := if t.k = 0 ∧ t.v ∉ vs then vs ++ [t.v] else vs
def nvs (vs : List Int) (ts : List Tm) : List Int := ts.foldl nvS vs
def vars (r : Ru) : List Int := r.b.foldl (fun vs l => nvs vs l.a) (nvs [] r.a)
theorem nvs_snoc {vs : List Int} {ts : List Tm} {i : Nat} {x : Tm} (h : ts[i]? = some x) : nvs vs (ts.take (i + 1)) = nvS (nvs vs (ts.take i)) x := by
  unfold nvs; rw [List.take_add_one, h, List.foldl_append]; rfl
theorem nvs_len (vs : List Int) : ∀ ts : List Tm, (nvs vs ts).length ≤ vs.length + ts.length
  | [] => Nat.le_refl _
  | t :: ts => by
    have h := nvs_len (nvS vs t) ts
    have h2 : (nvS vs t).length ≤ vs.length + 1 := by
      unfold nvS; split
      · simp
      · omega
    show (nvs (nvS vs t) ts).length ≤ _
    simp only [List.length_cons]; omega
structure VS where
  i : Nat
  v : Value
  E : List (Nat × Obj)
def lvars (vs : List Int) (ls : List Lt) : List Int := ls.foldl (fun vs l => nvs vs l.a) vs
theorem lvars_snoc {vs : List Int} {ls : List Lt} {i : Nat} {x : Lt} (h : ls[i]? = some x) : lvars vs (ls.take (i + 1)) = nvs (lvars vs (ls.take i)) x.a := by
  unfold lvars; rw [List.take_add_one, h, List.foldl_append]; rfl
theorem lvars_len (vs : List Int) : ∀ ls : List Lt, (∀ l, l ∈ ls → l.a.length ≤ 65536) → (lvars vs ls).length ≤ vs.length + ls.length * 65536
  | [], _ => Nat.le_refl _
  | l :: ls, h => by
    have h1 := lvars_len (nvs vs l.a) ls fun x hx => h x (List.mem_cons_of_mem _ hx)
    have h2 := nvs_len vs l.a
    have h3 := h l List.mem_cons_self
    show (lvars (nvs vs l.a) ls).length ≤ _
    simp only [List.length_cons]; omega
theorem has_mid1 {D : List Nat} {w0 w : World} {A B : List (Nat × Obj)} {x y : Nat × Obj} (h : Has D w0 (x :: (A ++ (y :: B))) w) : Has D w0 (y :: x :: (A ++ B)) w :=
  h.perm ((List.Perm.cons _ List.perm_middle).trans (List.Perm.swap ..))
theorem has_rot {D : List Nat} {w0 w : World} {A B : List (Nat × Obj)} {x : Nat × Obj} (h : Has D w0 (x :: (A ++ B)) w) : Has D w0 (B ++ (x :: A)) w := h.perm (List.perm_append_comm (l₁ := x :: A) (l₂ := B))
theorem has_rot2 {D : List Nat} {w0 w : World} {A B : List (Nat × Obj)} {x y : Nat × Obj} (h : Has D w0 (x :: y :: (A ++ B)) w) : Has D w0 (B ++ (x :: y :: A)) w := h.perm (List.perm_append_comm (l₁ := x :: y :: A) (l₂ := B))


set_option maxHeartbeats 1000000 in
theorem roll_spec (db : Nat) (x : Int) (m : Nat) (hm : 0 < m ∧ m ≤ 4611686018427387904) : Sp Tryz.prog 17 #[.pointer (some ⟨db, 0, none⟩), .int .i64 (m : Int)] [(db, C [.int .u64 (x)] 64)] (fun v F' => ∃ (x' : Int) (r : Nat), r < m ∧ v = .int .i64 (r : Int) ∧ F' = [(db, C [.int .u64 (x')] 64)]) := by
  refine f_enter (args := [.pointer (some ⟨db, 0, none⟩), .int .i64 (m : Int)]) Tryz.func17 rfl Tryz.ntmps17 rfl ?_
  intro w0 w a hpre hl hh
  simp only [slotsFrom, Nat.reduceAdd] at hl
  refine c_seq ?_
  refine c_region ?_
  refine wl (wl_val hl rfl trivial (r_assign hl rfl) ?_)
  clear hl a; intro a hl
  refine w_nil ?_
  have hl2 := hl.add (t := 0) (hl.add (t := 1) (hl.nil) rfl) rfl; clear hl; have hl := hl2; clear hl2
  refine then_normal ?_
  refine c_seq ?_
  refine c_region ?_
  refine wl (wl_val hl rfl trivial (r_move hl rfl) ?_)
  clear hl a; intro a hl
  refine wl (wl_val hl rfl trivial (r_move hl rfl) ?_)
  clear hl a; intro a hl
  refine wl (wl_val hl rfl trivial (r_nilCheck hl rfl) ?_)
  clear hl a; intro a hl
  refine wl (w_load hl hh rfl trivial one64 rfl (by repeat (first | exact find_head | apply find_tail)) (by first | rfl) ?_)
  clear hl a; intro a hl
  refine wl (wl_val hl rfl trivial (r_mulM wm_u64 hl rfl rfl) ?_)
  clear hl a; intro a hl
  refine wl (wl_val hl rfl trivial (r_addM wm_u64 hl rfl rfl) ?_)
  clear hl a; intro a hl
  obtain ⟨x', hx'⟩ : ∃ z, z = (x * 6364136223846793005 % 18446744073709551616 + 1442695040888963407) % 18446744073709551616 := ⟨_, rfl⟩
  have hxr : 0 ≤ x' ∧ x' < 18446744073709551616 := by omega
  rw [← hx'] at hl
  refine wl (wl_val hl rfl trivial (r_nilCheck hl rfl) ?_)
  clear hl a; intro a hl
  refine wl (w_store hl hh trivial one64 rfl rfl (by repeat (first | exact find_head | apply find_tail)) (by first | (simp; done) | (simp; omega)) (by first | rfl | assumption | (apply Row.one; assumption)) (by first | (simp only [setL, List.getElem?_cons_zero, List.getElem?_cons_succ, Value.cells, List.take_zero, List.take_succ_cons, List.take_nil, List.drop_zero, List.drop_succ_cons, List.drop_nil, List.length_cons, List.length_nil, List.cons_append, List.nil_append, List.append_nil, Nat.zero_add, Nat.add_zero, Nat.reduceAdd, Nat.reduceBEq, Nat.reduceEqDiff, Nat.ble, BEq.rfl, Bool.and_true, Bool.and_self, cond_true, beq_self_eq_true]; rfl)) ?_)
  clear hh w; intro w hh
  refine w_nil ?_
  have hl2 := hl.add (t := 0) (hl.add (t := 1) (hl.nil) rfl) rfl; clear hl; have hl := hl2; clear hl2
  refine then_normal ?_
  refine c_seq ?_
  refine c_region ?_
  refine wl (wl_val hl rfl trivial (r_move hl rfl) ?_)
  clear hl a; intro a hl
  refine wl (wl_val hl rfl trivial (r_nilCheck hl rfl) ?_)
  clear hl a; intro a hl
  refine wl (w_load hl hh rfl trivial one64 rfl (by repeat (first | exact find_head | apply find_tail)) (by first | rfl) ?_)
  clear hl a; intro a hl
  refine wl (wl_val hl rfl trivial (r_shr hl rfl rfl (by omega)) ?_)
  clear hl a; intro a hl
  obtain ⟨q, hq⟩ : ∃ z, z = x'.fdiv (2 ^ (min (33 : Int).toNat IntKind.u64.bits)) := ⟨_, rfl⟩
  have hqr : 0 ≤ q ∧ q < 18446744073709551616 := by
    have e9 : (2 : Int) ^ (min (33 : Int).toNat IntKind.u64.bits) = 8589934592 := by decide
    rw [e9, Int.fdiv_eq_ediv_of_nonneg _ (by decide)] at hq
    omega
  rw [← hq] at hl
  refine wl (wl_val hl rfl trivial (r_move hl rfl) ?_)
  clear hl a; intro a hl
  first | refine wl (wl_val hl rfl trivial (r_conv hl rfl Tryz.underlying3 Tryz.underlying49 (by simp only [Fits]; omega)) ?_) | refine wl (wl_val hl rfl trivial (r_convM wm_u64 hl rfl Tryz.underlying3 Tryz.underlying49) ?_)
  clear hl a; intro a hl
  first | refine wl (wl_val hl rfl trivial (r_rem hl rfl rfl (by omega) (by omega)) ?_) | refine wl (wl_val hl rfl trivial (r_remT hl rfl rfl (by omega)) ?_)
  clear hl a; intro a hl
  obtain ⟨r, hr⟩ : ∃ r : Nat, (r : Int) = q % (m : Int) := ⟨(q % (m : Int)).toNat, by have := Int.emod_nonneg q (show (m : Int) ≠ 0 by omega); omega⟩
  have hrm : r < m := by have := Int.emod_lt_of_pos q (show (0 : Int) < (m : Int) by omega); omega
  rw [← hr] at hl
  first | refine wl (wl_val hl rfl trivial (r_conv hl rfl Tryz.underlying49 Tryz.underlying3 (by simp only [Fits]; omega)) ?_) | refine wl (wl_val hl rfl trivial (r_convW hl rfl Tryz.underlying49 Tryz.underlying3) ?_)
  clear hl a; intro a hl
  refine wl (wl_val hl rfl trivial (r_assign hl rfl) ?_)
  clear hl a; intro a hl
  refine w_nil ?_
  have hl2 := hl.add (t := 4) (hl.nil) rfl; clear hl; have hl := hl2; clear hl2
  refine then_normal ?_
  refine wp_ret ?_
  refine f_ret1 (F' := [(db, C [.int .u64 (x')] 64)]) hl hh rfl rfl (by repeat (first | exact keeps_nil | apply keeps_cons (by repeat (first | exact find_head | apply find_tail)) (by first  | rfl) | exact keeps_self | apply keeps_mv)) ?_
  exact ⟨x', r, hrm, rfl, rfl⟩

set_option maxHeartbeats 1000000 in
theorem shuf_spec (db : Nat) (x : Int) (m : Nat) (hm : m ≤ 900000) : Sp Tryz.prog 50 #[.pointer (some ⟨db, 0, none⟩), .int .i64 (m : Int)] [(db, C [.int .u64 (x)] 64)] (fun v F' => ∃ (x' : Int) (l : List Int) (E : List (Nat × Obj)), l.Perm (ints m) ∧ Row v m (fl iI l) 1 3 E ∧ F' = (db, C [.int .u64 (x')] 64) :: E) := by
  refine f_enter (args := [.pointer (some ⟨db, 0, none⟩), .int .i64 (m : Int)]) Tryz.func50 rfl Tryz.ntmps50 rfl ?_
  intro w0 w a hpre hl hh
  simp only [slotsFrom, Nat.reduceAdd] at hl
  refine c_seq ?_
  refine c_region ?_
  refine wl (wl_val hl rfl trivial (r_assign hl rfl) ?_)
  clear hl a; intro a hl
  refine w_nil ?_
  have hl2 := hl.add (t := 0) (hl.add (t := 1) (hl.nil) rfl) rfl; clear hl; have hl := hl2; clear hl2
  refine then_normal ?_
  refine c_seq ?_
  refine c_region ?_
  refine wl (wl_val hl rfl trivial (r_move hl rfl) ?_)
  clear hl a; intro a hl
  refine wl (w_makeSliceN hl hh rfl trivial app58 zero3 rfl rfl (by omega) (by decide) ?_)
  clear hl hh a w; intro k10 jk10 a w hjk10 hl hh
  have hz9 := zeros_eq hjk10
  rw [hz9, ← upTo_0] at hh
  clear hz9
  refine wl (wl_val hl rfl trivial (r_assign hl rfl) ?_)
  clear hl a; intro a hl
  refine w_nil ?_
  have hl2 := hl.add (t := 0) (hl.add (t := 1) (hl.add (t := 5) (hl.nil) rfl) rfl) rfl; clear hl; have hl := hl2; clear hl2
  refine then_normal ?_
  refine c_seq ?_
  refine c_seq ?_
  refine c_region ?_
  refine wl (wl_val hl rfl trivial (r_move hl rfl) ?_)
  clear hl a; intro a hl
  refine wl (wl_val hl rfl trivial (r_lenS hl rfl slc58) ?_)
  clear hl a; intro a hl
  refine wl (wl_val hl rfl trivial (r_move hl rfl) ?_)
  clear hl a; intro a hl
  refine w_nil ?_
  have hl2 := hl.add (t := 0) (hl.add (t := 1) (hl.add (t := 5) (hl.add (t := 12) (hl.add (t := 13) (hl.nil) rfl) rfl) rfl) rfl) rfl; clear hl; have hl := hl2; clear hl2
  refine then_normal ?_
  refine wp_block ?_
  obtain ⟨KS0, hKS0, hk⟩ := (hl.add (t := 0) (hl.add (t := 1) (hl.add (t := 5) (hl.add (t := 12) (hl.nil) rfl) rfl) rfl) rfl).name
  obtain ⟨HS0, hHS0, hh2⟩ := hh.name (keeps_cons (b := k10) (o' := C (fl iI (upTo m 0) ) 3) (by repeat (first | exact find_head | apply find_tail)) (by first | rfl) (keeps_nil))
  refine c_loop (α := Nat) (fun i => m - i) (fun i a w => (i ≤ m) ∧ Sl 46 ([(13, .int .i64 (i : Int))] ++ KS0) a ∧ Has _ w0 ([(k10, C (fl iI (upTo m i) ) 3)] ++ HS0) w) 0 ⟨(Nat.zero_le _), hl.addE (t := 13) (hk) rfl (by first | rfl), hh2⟩ ?_
  clear hk hh2 hl hh a w
  intro i a w hI
  obtain ⟨hi, hl, hh⟩ := hI
  subst hKS0; subst hHS0
  simp only [List.cons_append, List.nil_append, List.append_nil] at hl hh
  refine c_seq ?_
  refine c_region ?_
  refine wl (wl_val hl rfl trivial (r_lss hl rfl rfl) ?_)
  clear hl a; intro a hl
  refine w_nil ?_
  have hl2 := hl.add (t := 0) (hl.add (t := 1) (hl.add (t := 5) (hl.add (t := 12) (hl.add (t := 13) (hl.add (t := 14) (hl.nil) rfl) rfl) rfl) rfl) rfl) rfl; clear hl; have hl := hl2; clear hl2
  refine then_normal ?_
  refine c_seq ?_
  refine c_cond hl rfl ?_ ?_
  · intro hc0
    try simp only [decide_eq_true_eq, decide_eq_false_iff_not, Bool.not_eq_true', Bool.not_eq_false', Bool.not_eq_true, Bool.not_eq_false, Bool.and_eq_true, Bool.or_eq_true, Bool.and_eq_false_iff, Bool.or_eq_false_iff, Bool.not_not, ne_eq, Int.not_lt, Int.not_le, Decidable.not_not, beq_iff_eq, bne_iff_ne] at hc0
    refine wp_skip ?_
    refine then_normal ?_
    refine c_seq ?_
    refine wp_block ?_
    refine c_seq ?_
    refine c_region ?_
    refine wl (wl_val hl rfl trivial (r_move hl rfl) ?_)
    clear hl a; intro a hl
    refine wl (wl_val hl rfl trivial (r_assign hl rfl) ?_)
    clear hl a; intro a hl
    refine w_nil ?_
    have hl2 := hl.add (t := 0) (hl.add (t := 1) (hl.add (t := 5) (hl.add (t := 6) (hl.add (t := 12) (hl.add (t := 13) (hl.nil) rfl) rfl) rfl) rfl) rfl) rfl; clear hl; have hl := hl2; clear hl2
    refine then_normal ?_
    refine c_region ?_
    refine wl (wl_val hl rfl trivial (r_move hl rfl) ?_)
    clear hl a; intro a hl
    refine wl (wl_val hl rfl trivial (r_move hl rfl) ?_)
    clear hl a; intro a hl
    refine wl (wl_val hl rfl trivial (r_move hl rfl) ?_)
    clear hl a; intro a hl
    refine wl (wl_val hl rfl trivial (r_indexS hl rfl rfl slc58 (by omega) (by omega) (by first | (simp only [Int.reduceToNat]; rfl) | exact toNat_add1 _ | exact toNat_add2 _ _ | exact toNat_emod _ _ | exact Int.toNat_natCast _ | rfl)) ?_)
    clear hl a; intro a hl
    refine wl (w_store hl hh trivial one3 rfl rfl (by repeat (first | exact find_head | apply find_tail)) (by first | exact fm0 (by rw [upTo_len (by omega)]; omega) | exact fm0 (by rw [hzl]; omega) | exact fm0 (by rw [List.length_set, hzl]; omega)) (by first | rfl | assumption | (apply Row.one; assumption)) (by first | exact (fs0 (by rw [upTo_len (by omega)]; omega)).trans (congrArg (fl iI) (upTo_set (by omega))) | exact fs0 (by rw [hzl]; omega) | exact fs0 (by rw [List.length_set, hzl]; omega)) ?_)
    clear hh w; intro w hh
    refine w_nil ?_
    have hl2 := hl.add (t := 0) (hl.add (t := 1) (hl.add (t := 5) (hl.add (t := 12) (hl.add (t := 13) (hl.nil) rfl) rfl) rfl) rfl) rfl; clear hl; have hl := hl2; clear hl2
    refine blk_normal ?_
    refine then_normal ?_
    refine c_region ?_
    first | refine wl (wl_val hl rfl trivial (r_add hl rfl rfl (by simp only [Fits]; omega)) ?_) | refine wl (wl_val hl rfl trivial (r_addW hl rfl rfl) ?_)
    clear hl a; intro a hl
    refine wl (wl_val hl rfl trivial (r_move hl rfl) ?_)
    clear hl a; intro a hl
    refine w_nil ?_
    have hl2 := hl.add (t := 0) (hl.add (t := 1) (hl.add (t := 5) (hl.add (t := 12) (hl.add (t := 13) (hl.nil) rfl) rfl) rfl) rfl) rfl; clear hl; have hl := hl2; clear hl2
    refine then_normal ?_
    refine ⟨i + 1, (by omega), (by omega), hl.addE (t := 13) (hl.addE (t := 0) (hl.addE (t := 1) (hl.addE (t := 5) (hl.addE (t := 12) (hl.nil) rfl (by first | rfl | rfl)) rfl (by first | rfl | rfl)) rfl (by first | rfl | rfl)) rfl (by first | rfl | rfl)) rfl (by first | rfl | rfl), hh.keep (by repeat (first | exact keeps_nil | apply keeps_cons (by repeat (first | exact find_head | apply find_tail)) (by first  | rfl) | exact keeps_self | apply keeps_mv))⟩
  · intro hc0
    try simp only [decide_eq_true_eq, decide_eq_false_iff_not, Bool.not_eq_true', Bool.not_eq_false', Bool.not_eq_true, Bool.not_eq_false, Bool.and_eq_true, Bool.or_eq_true, Bool.and_eq_false_iff, Bool.or_eq_false_iff, Bool.not_not, ne_eq, Int.not_lt, Int.not_le, Decidable.not_not, beq_iff_eq, bne_iff_ne] at hc0
    obtain rfl : m = i := by omega
    refine wp_exit ?_
    refine then_exit ?_
    refine then_exit ?_
    refine blk_exit ?_
    refine then_normal ?_
    refine c_seq ?_
    refine c_seq ?_
    refine c_region ?_
    refine wl (wl_val hl rfl trivial (r_move hl rfl) ?_)
    clear hl a; intro a hl
    first | refine wl (wl_val hl rfl trivial (r_sub hl rfl rfl (by simp only [Fits]; omega)) ?_) | refine wl (wl_val hl rfl trivial (r_subW hl rfl rfl) ?_)
    clear hl a; intro a hl
    refine wl (wl_val hl rfl trivial (r_assign hl rfl) ?_)
    clear hl a; intro a hl
    refine w_nil ?_
    have hl2 := hl.add (t := 0) (hl.add (t := 5) (hl.add (t := 7) (hl.nil) rfl) rfl) rfl; clear hl; have hl := hl2; clear hl2
    refine then_normal ?_
    refine wp_block ?_
    obtain ⟨KS1, hKS1, hk⟩ := (hl.add (t := 0) (hl.add (t := 5) (hl.nil) rfl) rfl).name
    obtain ⟨HS1, hHS1, hh2⟩ := hh.name (keeps_cons (b := k10) (o' := C (fl iI (upTo m m) ) 3) (by repeat (first | exact find_head | apply find_tail)) (by first | rfl) (keeps_cons (b := db) (o' := C [.int .u64 x] 64) (by repeat (first | exact find_head | apply find_tail)) (by first | rfl) (keeps_nil)))
    refine c_loop (α := DZ) (fun z => z.i) (fun z a w => (z.i ≤ m ∧ z.l.Perm (ints m)) ∧ Sl 46 ([(7, .int .i64 ((z.i : Int) - 1))] ++ KS1) a ∧ Has _ w0 ([(k10, C (fl iI z.l ) 3), (db, C [.int .u64 z.x] 64)] ++ HS1) w) ⟨m, x, upTo m m⟩ ⟨⟨Nat.le_refl _, by simp only; rw [upTo_end]⟩, hl.addE (t := 7) (hk) rfl (by first | rfl), hh2⟩ ?_
    clear hk hh2 hl hh a w
    intro z a w hI
    obtain ⟨⟨hz, hp⟩, hl, hh⟩ := hI
    subst hKS1; subst hHS1
    simp only [List.cons_append, List.nil_append, List.append_nil] at hl hh
    have hzl : z.l.length = m := by rw [hp.length_eq, ints_len]
    refine c_seq ?_
    refine c_seq ?_
    refine c_region ?_
    refine wl (wl_val hl rfl trivial (r_move hl rfl) ?_)
    clear hl a; intro a hl
    refine wl (wl_val hl rfl trivial (r_gtr hl rfl rfl) ?_)
    clear hl a; intro a hl
    refine w_nil ?_
    have hl2 := hl.add (t := 0) (hl.add (t := 5) (hl.add (t := 7) (hl.add (t := 24) (hl.nil) rfl) rfl) rfl) rfl; clear hl; have hl := hl2; clear hl2
    refine then_normal ?_
    refine c_cond hl rfl ?_ ?_
    · intro hc1
      try simp only [decide_eq_true_eq, decide_eq_false_iff_not, Bool.not_eq_true', Bool.not_eq_false', Bool.not_eq_true, Bool.not_eq_false, Bool.and_eq_true, Bool.or_eq_true, Bool.and_eq_false_iff, Bool.or_eq_false_iff, Bool.not_not, ne_eq, Int.not_lt, Int.not_le, Decidable.not_not, beq_iff_eq, bne_iff_ne] at hc1
      obtain ⟨q9, hq9⟩ : ∃ q, z.i = q + 1 := ⟨z.i - 1, by omega⟩
      rw [show (z.i : Int) - 1 = (q9 : Int) by omega] at hl
      obtain ⟨a9, ha9⟩ : ∃ y, z.l[q9]? = some y := ⟨_, List.getElem?_eq_getElem (by omega)⟩
      refine wp_skip ?_
      refine then_normal ?_
      refine c_seq ?_
      refine wp_block ?_
      refine c_seq ?_
      refine c_region ?_
      refine wl (wl_val hl rfl trivial (r_move hl rfl) ?_)
      clear hl a; intro a hl
      refine wl (wl_val hl rfl trivial (r_move hl rfl) ?_)
      clear hl a; intro a hl
      first | refine wl (wl_val hl rfl trivial (r_add hl rfl rfl (by simp only [Fits]; omega)) ?_) | refine wl (wl_val hl rfl trivial (r_addW hl rfl rfl) ?_)
      clear hl a; intro a hl
      rw [show (q9 : Int) + 1 = ((q9 + 1 : Nat) : Int) by omega] at hl
      refine wl (w_call hl hh rfl trivial rfl cal17 rfl (roll_spec db z.x (q9 + 1) (by omega)) (by repeat (first | exact keeps_nil | apply keeps_cons (by repeat (first | exact find_head | apply find_tail)) (by first  | rfl) | exact keeps_self | apply keeps_mv)) trivial ?_)
      clear hl hh a w; intro vc Fc a w hR hl hh
      obtain ⟨x9, r9, hr9, rfl, rfl⟩ := hR
      try simp only [List.cons_append, List.nil_append] at hh
      refine wl (wl_val hl rfl trivial (r_assign hl rfl) ?_)
      clear hl a; intro a hl
      refine w_nil ?_
      have hl2 := hl.add (t := 0) (hl.add (t := 5) (hl.add (t := 7) (hl.add (t := 8) (hl.nil) rfl) rfl) rfl) rfl; clear hl; have hl := hl2; clear hl2
      obtain ⟨b9, hb9⟩ : ∃ y, z.l[r9]? = some y := ⟨_, List.getElem?_eq_getElem (by omega)⟩
      refine then_normal ?_
      refine c_draw [] [14, 15] mixed hh ?_
      clear hh w; intro w hh
      have hM : Mem [] w := Mem.nil
      refine d_take (i := 0) hl rfl (by kernel_rfl) (by kernel_rfl) (by kernel_rfl) (by kernel_rfl) (by kernel_rfl) rfl trivial (fun _ _ _ h => h) hM (fun w hC => r_move hl rfl) rfl ?_
      clear hl a; intro a hl
      refine d_take (i := 1) hl rfl (by kernel_rfl) (by kernel_rfl) (by kernel_rfl) (by kernel_rfl) (by kernel_rfl) rfl trivial (fun _ _ _ h => h) hM (fun w hC => r_move hl rfl) rfl ?_
      clear hl a; intro a hl
      refine d_take (i := 2) hl rfl (by kernel_rfl) (by kernel_rfl) (by kernel_rfl) (by kernel_rfl) (by kernel_rfl) rfl trivial (fun _ _ _ h => h) hM (fun w hC => r_move hl rfl) rfl ?_
      clear hl a; intro a hl
      refine d_take (i := 3) hl rfl (by kernel_rfl) (by kernel_rfl) (by kernel_rfl) (by kernel_rfl) (by kernel_rfl) rfl trivial (fun _ _ _ h => h) hM (fun w hC => r_move hl rfl) rfl ?_
      clear hl a; intro a hl
      refine d_take (i := 4) hl rfl (by kernel_rfl) (by kernel_rfl) (by kernel_rfl) (by kernel_rfl) (by kernel_rfl) rfl trivial (fun _ _ _ h => h) hM (fun w hC => r_move hl rfl) rfl ?_
      clear hl a; intro a hl
      refine d_take (i := 5) hl rfl (by kernel_rfl) (by kernel_rfl) (by kernel_rfl) (by kernel_rfl) (by kernel_rfl) rfl trivial (fun _ _ _ h => h) hM (fun w hC => r_move hl rfl) rfl ?_
      clear hl a; intro a hl
      refine d_take (i := 6) hl rfl (by kernel_rfl) (by kernel_rfl) (by kernel_rfl) (by kernel_rfl) (by kernel_rfl) rfl trivial (fun _ _ _ h => h) hM (fun w hC => r_indexS hl rfl rfl slc58 (by omega) (by omega) (by first | (simp only [Int.reduceToNat]; rfl) | exact toNat_add1 _ | exact toNat_add2 _ _ | exact toNat_emod _ _ | exact Int.toNat_natCast _ | rfl)) rfl ?_
      clear hl a; intro a hl
      refine d_take (i := 8) hl rfl (by kernel_rfl) (by kernel_rfl) (by kernel_rfl) (by kernel_rfl) (by kernel_rfl) rfl trivial (fun _ _ _ h => h) hM (fun w hC => r_move hl rfl) rfl ?_
      clear hl a; intro a hl
      refine d_take (i := 9) hl rfl (by kernel_rfl) (by kernel_rfl) (by kernel_rfl) (by kernel_rfl) (by kernel_rfl) rfl trivial (fun _ _ _ h => h) hM (fun w hC => r_move hl rfl) rfl ?_
      clear hl a; intro a hl
      refine d_take (i := 10) hl rfl (by kernel_rfl) (by kernel_rfl) (by kernel_rfl) (by kernel_rfl) (by kernel_rfl) rfl trivial (fun _ _ _ h => h) hM (fun w hC => r_indexS hl rfl rfl slc58 (by omega) (by omega) (by first | (simp only [Int.reduceToNat]; rfl) | exact toNat_add1 _ | exact toNat_add2 _ _ | exact toNat_emod _ _ | exact Int.toNat_natCast _ | rfl)) rfl ?_
      clear hl a; intro a hl
      refine d_two (i := 7) (j := 11) (by kernel_rfl) rfl rfl ?_ ?_
      ·
        try clear hM
        refine id (w_load hl hh rfl trivial one3 rfl (by repeat (first | exact find_head | apply find_tail)) (by first | exact fc0 ha9 | exact fc0 hb9) ?_)
        clear hl a; intro a hl
        have hM : Mem [] w := Mem.nil
        refine d_step (fun _ => hM) ?_
        refine d_one (i := 11) (by kernel_rfl) rfl ?_
        try clear hM
        refine id (w_load hl hh rfl trivial one3 rfl (by repeat (first | exact find_head | apply find_tail)) (by first | exact fc0 ha9 | exact fc0 hb9) ?_)
        clear hl a; intro a hl
        have hM : Mem [] w := Mem.nil
        refine d_step (fun _ => hM) ?_
        refine d_take (i := 12) hl rfl (by kernel_rfl) (by kernel_rfl) (by kernel_rfl) (by kernel_rfl) (by kernel_rfl) rfl trivial (fun _ _ _ h => h) hM (fun w hC => r_indexS hl rfl rfl slc58 (by omega) (by omega) (by first | (simp only [Int.reduceToNat]; rfl) | exact toNat_add1 _ | exact toNat_add2 _ _ | exact toNat_emod _ _ | exact Int.toNat_natCast _ | rfl)) rfl ?_
        clear hl a; intro a hl
        refine d_one (i := 13) (by kernel_rfl) rfl ?_
        try clear hM
        refine id (w_store hl hh trivial one3 rfl rfl (by repeat (first | exact find_head | apply find_tail)) (by first | exact fm0 (by rw [upTo_len (by omega)]; omega) | exact fm0 (by rw [hzl]; omega) | exact fm0 (by rw [List.length_set, hzl]; omega)) (by first | rfl | assumption | (apply Row.one; assumption)) (by first | exact (fs0 (by rw [upTo_len (by omega)]; omega)).trans (congrArg (fl iI) (upTo_set (by omega))) | exact fs0 (by rw [hzl]; omega) | exact fs0 (by rw [List.length_set, hzl]; omega)) ?_)
        clear hh w; intro w hh
        have hM : Mem [] w := Mem.nil
        refine d_step (fun _ => hM) ?_
        refine d_takeL (i := 14) hl rfl (by kernel_rfl) (by kernel_rfl) (by kernel_rfl) (by kernel_rfl) (by kernel_rfl) rfl trivial (fun _ _ _ h => h) (fun w => r_indexS hl rfl rfl slc58 (by omega) (by omega) (by first | (simp only [Int.reduceToNat]; rfl) | exact toNat_add1 _ | exact toNat_add2 _ _ | exact toNat_emod _ _ | exact Int.toNat_natCast _ | rfl)) rfl ?_
        clear hl a; intro a hl
        refine d_one (i := 15) (by kernel_rfl) rfl ?_
        try clear hM
        refine id (w_store hl hh trivial one3 rfl rfl (by repeat (first | exact find_head | apply find_tail)) (by first | exact fm0 (by rw [upTo_len (by omega)]; omega) | exact fm0 (by rw [hzl]; omega) | exact fm0 (by rw [List.length_set, hzl]; omega)) (by first | rfl | assumption | (apply Row.one; assumption)) (by first | exact (fs0 (by rw [upTo_len (by omega)]; omega)).trans (congrArg (fl iI) (upTo_set (by omega))) | exact fs0 (by rw [hzl]; omega) | exact fs0 (by rw [List.length_set, hzl]; omega)) ?_)
        clear hh w; intro w hh
        refine d_step (fun h => absurd h (by decide)) ?_
        refine d_done (by kernel_rfl) ?_
        try clear hM
        have hl2 := hl.add (t := 0) (hl.add (t := 5) (hl.add (t := 7) (hl.nil) rfl) rfl) rfl; clear hl; have hl := hl2; clear hl2
        refine blk_normal ?_
        refine then_normal ?_
        refine c_region ?_
        refine wl (wl_val hl rfl trivial (r_move hl rfl) ?_)
        clear hl a; intro a hl
        first | refine wl (wl_val hl rfl trivial (r_sub hl rfl rfl (by simp only [Fits]; omega)) ?_) | refine wl (wl_val hl rfl trivial (r_subW hl rfl rfl) ?_)
        clear hl a; intro a hl
        refine wl (wl_val hl rfl trivial (r_assign hl rfl) ?_)
        clear hl a; intro a hl
        refine w_nil ?_
        have hl2 := hl.add (t := 0) (hl.add (t := 5) (hl.add (t := 7) (hl.nil) rfl) rfl) rfl; clear hl; have hl := hl2; clear hl2
        refine then_normal ?_
        refine ⟨⟨q9, x9, (z.l.set q9 b9).set r9 a9⟩, (by simp only; omega), ⟨by simp only; omega, (swap_perm ha9 hb9).trans hp⟩, hl.addE (t := 7) (hl.addE (t := 0) (hl.addE (t := 5) (hl.nil) rfl (by first | rfl | rfl)) rfl (by first | rfl | rfl)) rfl (by first | rfl | rfl), hh.keep (by repeat (first | exact keeps_nil | apply keeps_cons (by repeat (first | exact find_head | apply find_tail)) (by first  | rfl) | exact keeps_self | apply keeps_mv))⟩
      ·
        try clear hM
        refine id (w_load hl hh rfl trivial one3 rfl (by repeat (first | exact find_head | apply find_tail)) (by first | exact fc0 ha9 | exact fc0 hb9) ?_)
        clear hl a; intro a hl
        have hM : Mem [] w := Mem.nil
        refine d_step (fun _ => hM) ?_
        refine d_one (i := 7) (by kernel_rfl) rfl ?_
        try clear hM
        refine id (w_load hl hh rfl trivial one3 rfl (by repeat (first | exact find_head | apply find_tail)) (by first | exact fc0 ha9 | exact fc0 hb9) ?_)
        clear hl a; intro a hl
        have hM : Mem [] w := Mem.nil
        refine d_step (fun _ => hM) ?_
        refine d_take (i := 12) hl rfl (by kernel_rfl) (by kernel_rfl) (by kernel_rfl) (by kernel_rfl) (by kernel_rfl) rfl trivial (fun _ _ _ h => h) hM (fun w hC => r_indexS hl rfl rfl slc58 (by omega) (by omega) (by first | (simp only [Int.reduceToNat]; rfl) | exact toNat_add1 _ | exact toNat_add2 _ _ | exact toNat_emod _ _ | exact Int.toNat_natCast _ | rfl)) rfl ?_
        clear hl a; intro a hl
        refine d_one (i := 13) (by kernel_rfl) rfl ?_
        try clear hM
        refine id (w_store hl hh trivial one3 rfl rfl (by repeat (first | exact find_head | apply find_tail)) (by first | exact fm0 (by rw [upTo_len (by omega)]; omega) | exact fm0 (by rw [hzl]; omega) | exact fm0 (by rw [List.length_set, hzl]; omega)) (by first | rfl | assumption | (apply Row.one; assumption)) (by first | exact (fs0 (by rw [upTo_len (by omega)]; omega)).trans (congrArg (fl iI) (upTo_set (by omega))) | exact fs0 (by rw [hzl]; omega) | exact fs0 (by rw [List.length_set, hzl]; omega)) ?_)
        clear hh w; intro w hh
        have hM : Mem [] w := Mem.nil
        refine d_step (fun _ => hM) ?_
        refine d_takeL (i := 14) hl rfl (by kernel_rfl) (by kernel_rfl) (by kernel_rfl) (by kernel_rfl) (by kernel_rfl) rfl trivial (fun _ _ _ h => h) (fun w => r_indexS hl rfl rfl slc58 (by omega) (by omega) (by first | (simp only [Int.reduceToNat]; rfl) | exact toNat_add1 _ | exact toNat_add2 _ _ | exact toNat_emod _ _ | exact Int.toNat_natCast _ | rfl)) rfl ?_
        clear hl a; intro a hl
        refine d_one (i := 15) (by kernel_rfl) rfl ?_
        try clear hM
        refine id (w_store hl hh trivial one3 rfl rfl (by repeat (first | exact find_head | apply find_tail)) (by first | exact fm0 (by rw [upTo_len (by omega)]; omega) | exact fm0 (by rw [hzl]; omega) | exact fm0 (by rw [List.length_set, hzl]; omega)) (by first | rfl | assumption | (apply Row.one; assumption)) (by first | exact (fs0 (by rw [upTo_len (by omega)]; omega)).trans (congrArg (fl iI) (upTo_set (by omega))) | exact fs0 (by rw [hzl]; omega) | exact fs0 (by rw [List.length_set, hzl]; omega)) ?_)
        clear hh w; intro w hh
        refine d_step (fun h => absurd h (by decide)) ?_
        refine d_done (by kernel_rfl) ?_
        try clear hM
        have hl2 := hl.add (t := 0) (hl.add (t := 5) (hl.add (t := 7) (hl.nil) rfl) rfl) rfl; clear hl; have hl := hl2; clear hl2
        refine blk_normal ?_
        refine then_normal ?_
        refine c_region ?_
        refine wl (wl_val hl rfl trivial (r_move hl rfl) ?_)
        clear hl a; intro a hl
        first | refine wl (wl_val hl rfl trivial (r_sub hl rfl rfl (by simp only [Fits]; omega)) ?_) | refine wl (wl_val hl rfl trivial (r_subW hl rfl rfl) ?_)
        clear hl a; intro a hl
        refine wl (wl_val hl rfl trivial (r_assign hl rfl) ?_)
        clear hl a; intro a hl
        refine w_nil ?_
        have hl2 := hl.add (t := 0) (hl.add (t := 5) (hl.add (t := 7) (hl.nil) rfl) rfl) rfl; clear hl; have hl := hl2; clear hl2
        refine then_normal ?_
        refine ⟨⟨q9, x9, (z.l.set q9 b9).set r9 a9⟩, (by simp only; omega), ⟨by simp only; omega, (swap_perm ha9 hb9).trans hp⟩, hl.addE (t := 7) (hl.addE (t := 0) (hl.addE (t := 5) (hl.nil) rfl (by first | rfl | rfl)) rfl (by first | rfl | rfl)) rfl (by first | rfl | rfl), hh.keep (by repeat (first | exact keeps_nil | apply keeps_cons (by repeat (first | exact find_head | apply find_tail)) (by first  | rfl) | exact keeps_self | apply keeps_mv))⟩
    · intro hc1
      try simp only [decide_eq_true_eq, decide_eq_false_iff_not, Bool.not_eq_true', Bool.not_eq_false', Bool.not_eq_true, Bool.not_eq_false, Bool.and_eq_true, Bool.or_eq_true, Bool.and_eq_false_iff, Bool.or_eq_false_iff, Bool.not_not, ne_eq, Int.not_lt, Int.not_le, Decidable.not_not, beq_iff_eq, bne_iff_ne] at hc1
      refine wp_exit ?_
      refine then_exit ?_
      refine then_exit ?_
      refine blk_exit ?_
      refine then_normal ?_
      refine c_seq ?_
      refine c_region ?_
      refine wl (wl_val hl rfl trivial (r_move hl rfl) ?_)
      clear hl a; intro a hl
      refine wl (wl_val hl rfl trivial (r_assign hl rfl) ?_)
      clear hl a; intro a hl
      refine w_nil ?_
      have hl2 := hl.add (t := 4) (hl.nil) rfl; clear hl; have hl := hl2; clear hl2
      refine then_normal ?_
      refine wp_ret ?_
      refine f_ret1 (F' := [(db, C [.int .u64 (z.x)] 64), (k10, C (fl iI z.l ) 3)]) hl hh rfl rfl (by repeat (first | exact keeps_nil | apply keeps_cons (by repeat (first | exact find_head | apply find_tail)) (by first  | rfl) | exact keeps_self | apply keeps_mv)) ?_
      exact ⟨z.x, z.l, _, hp, .inr ⟨k10, m, [], rfl, by rw [fl_len iI_len, hzl], by rw [List.append_nil, fl_len iI_len, hzl], Nat.le_refl _, by rw [List.append_nil]⟩, rfl⟩
end Go.Proofs.Qxb6500915aGreatDoor

import Derived.Test.Qxb6500912aGreatDoorZ3
import Derived.Test.Qxb6500912aGreatDoorMkn
namespace Go.Proofs.Qxb6500912aGreatDoor
open Go.Eng
set_option linter.unusedVariables false
set_option linter.unusedSimpArgs false
theorem fld79_0 : fieldOk Tryz.prog 79 0 0 = true := by kernel_rfl
theorem fld79_1 : fieldOk Tryz.prog 79 1 1 = true := by kernel_rfl
theorem one77 : oneOk Tryz.prog 77 = true := by kernel_rfl
theorem slc77 : slcOk Tryz.prog 77 1 = true := by kernel_rfl
/-! ## the flight, byte by byte -/
def blF (g : Nat → Bool) : Nat → Value := fun i => .bool (g i)
def atM (base : Int) (f : Nat) (g : Nat → Bool) (x : Int) : Bool := decide (base ≤ x ∧ x < base + f) && g (x - base).toNat
theorem bl_at {f : Nat} {g : Nat → Bool} {i : Nat} (h : i < f) : (arrL f (blF g))[0 + i * 1]? = some (.bool (g i)) := by
  rw [show 0 + i * 1 = i by omega, arrL_get h]; rfl
theorem at_out {base : Int} {f : Nat} {g : Nat → Bool} {x : Int} (h : ¬ (base ≤ x ∧ x < base + f)) : atM base f g x = false := by unfold atM; rw [decide_eq_false h]; rfl
theorem at_in {base : Int} {f : Nat} {g : Nat → Bool} {x : Int} (h : base ≤ x ∧ x < base + f) : atM base f g x = g (x - base).toNat := by unfold atM; rw [decide_eq_true h]; rfl
def covB (os : List Bk) (k : Nat) : Bool := os.any fun x => decide (x.s ≤ k ∧ k < x.e)
def skG (sk : Bool) (os : List Bk) : Nat → Bool := fun k => sk && covB os k
theorem bl_zero {f : Nat} {junk : List Value} (h : junk.length = f * 1 ∧ ∀ j, j < f * 1 → junk[j]? = some ((Value.bool false).cells[j % 1]!)) : junk = arrL f (blF fun _ => false) := by
  refine List.ext_getElem? fun i => ?_
  by_cases hi : i < f
  · rw [h.2 i (by omega), arrL_get hi]
    have : i % 1 = 0 := Nat.mod_one i
    rw [this]; rfl
  · rw [List.getElem?_eq_none (by omega), List.getElem?_eq_none (by rw [arrL_length]; omega)]
theorem bl_ext {f : Nat} {g g' : Nat → Bool} (h : ∀ k, k < f → g k = g' k) : arrL f (blF g) = arrL f (blF g') := by
  unfold arrL
  exact List.map_congr_left fun i hi => congrArg Value.bool (h i (List.mem_range.1 hi))
theorem bl_set {f : Nat} {g : Nat → Bool} {i : Nat} {v : Bool} (h : i < f) : setL (arrL f (blF g)) (0 + i * 1) [.bool v] = arrL f (blF fun k => if k = i then v else g k) := by
  rw [show 0 + i * 1 = i by omega, arrL_set h]
  unfold arrL
  refine List.map_congr_left fun k hk => ?_
  unfold updV blF
  by_cases e : k = i
  · rw [if_pos e]; simp only [e, if_true]
  · rw [if_neg e]; simp only [e, if_false]
/-- blocks before j, and of the next one what lies before i -/
def covP2 (os : List Bk) (j : Nat) (a i : Nat) : Nat → Bool := fun k => covB (os.take j) k || decide (a ≤ k ∧ k < i)
theorem cov_set {os : List Bk} {j a i f : Nat} (h : i < f) (ha : a ≤ i) : setL (arrL f (blF (covP2 os j a i))) (0 + i * 1) [.bool true] = arrL f (blF (covP2 os j a (i + 1))) := by
  rw [bl_set h]
  refine bl_ext fun k hk => ?_
  unfold covP2
  by_cases e : k = i
  · rw [if_pos e, e]; simp; right; omega
  · rw [if_neg e]
    have : (a ≤ k ∧ k < i) ↔ (a ≤ k ∧ k < i + 1) := by omega
    rw [decide_eq_decide.2 this]
theorem cov_start {os : List Bk} {j a : Nat} : covP2 os j a a = covB (os.take j) := by
  funext k
  unfold covP2
  rw [decide_eq_false (by omega), Bool.or_false]
theorem cov_next {os : List Bk} {j : Nat} {x : Bk} (h : os[j]? = some x) : covP2 os j x.s x.e = covB (os.take (j + 1)) := by
  funext k
  unfold covP2 covB
  rw [List.take_add_one, h, List.any_append]
  simp
theorem ab_first {st una : Int} {x : Bk} {f : Nat} (hx : BIn f x) (hf : f ≤ 1000000) : ((x.ab (seqM st una)).1 - seqM st una) % 4294967296 = (x.s : Int) ∧ ((x.ab (seqM st una)).2 - (x.ab (seqM st una)).1) % 4294967296 = ((x.e - x.s : Nat) : Int) := by
  obtain ⟨h1, h2⟩ := hx
  unfold Bk.ab
  simp only
  generalize seqM st una = u
  constructor
  · omega
  · omega


set_option maxHeartbeats 1000000 in
theorem at_m (base : Int) (f fb : Nat) (g : Nat → Bool) (x : Int) (hb : -2305843009213693952 ≤ base ∧ base ≤ 2305843009213693952) (hf : f ≤ 1000000) (hx : -2305843009213693952 ≤ x ∧ x ≤ 2305843009213693952) : SpK Tryz.prog 47 #[.agg ⟨[.int .i64 (base), .slice (some ⟨fb, 0, none⟩) f f]⟩, .int .i64 x] (fun w => w.heap[fb]? = some (C (arrL f (blF g)) 4)) [] (fun v F' => v = .bool (atM base f g x) ∧ F' = []) := by
  refine f_enter (args := [.agg ⟨[.int .i64 (base), .slice (some ⟨fb, 0, none⟩) f f]⟩, .int .i64 x]) Tryz.func47 rfl Tryz.ntmps47 rfl ?_
  intro w0 w a hpre hl hh
  simp only [slotsFrom, Nat.reduceAdd] at hl
  refine c_seq ?_
  refine c_region ?_
  refine wl (w_box hl hh rfl trivial rfl rfl ?_)
  clear hl hh a w; intro k2 a w hl hh
  refine wl (wl_val hl rfl trivial (r_assign hl rfl) ?_)
  clear hl a; intro a hl
  refine w_nil ?_
  have hl2 := hl.add (t := 1) (hl.add (t := 2) (hl.nil) rfl) rfl; clear hl; have hl := hl2; clear hl2
  refine then_normal ?_
  refine c_seq ?_
  refine c_region ?_
  refine wl (wl_val hl rfl trivial (r_move hl rfl) ?_)
  clear hl a; intro a hl
  refine wl (wl_val hl rfl trivial (r_field hl rfl fld79_0) ?_)
  clear hl a; intro a hl
  first | refine wl (w_load hl hh rfl trivial one2 rfl (by repeat (first | exact find_head | apply find_tail)) (by first | rfl) ?_) | refine wl (w_loadR hl hh rfl trivial one2 rfl hpre (by simp) (bl_at (i := (x - base).toNat) (by omega)) ?_)
  clear hl a; intro a hl
  refine wl (wl_val hl rfl trivial (r_geq hl rfl rfl) ?_)
  clear hl a; intro a hl
  refine wl (wl_val hl rfl trivial (r_move hl rfl) ?_)
  clear hl a; intro a hl
  refine sl_split (t := 9) hl rfl ?_ ?_
  · intro hg1; clear hl; intro hl
    try simp only [decide_eq_true_eq, decide_eq_false_iff_not, Bool.not_eq_true', Bool.not_eq_false', Bool.not_eq_true, Bool.not_eq_false, Bool.and_eq_true, Bool.or_eq_true, Bool.and_eq_false_iff, Bool.or_eq_false_iff, Bool.not_not, ne_eq, Int.not_lt, Int.not_le, Decidable.not_not, beq_iff_eq, bne_iff_ne] at hg1
    refine wl (wl_val hl rfl ⟨_, _, rfl, rfl, rfl⟩ (r_move hl rfl) ?_)
    clear hl a; intro a hl
    refine wl (wl_val hl rfl ⟨_, _, rfl, rfl, rfl⟩ (r_field hl rfl fld79_0) ?_)
    clear hl a; intro a hl
    first | refine wl (w_load hl hh rfl ⟨_, _, rfl, rfl, rfl⟩ one2 rfl (by repeat (first | exact find_head | apply find_tail)) (by first | rfl) ?_) | refine wl (w_loadR hl hh rfl ⟨_, _, rfl, rfl, rfl⟩ one2 rfl hpre (by simp) (bl_at (i := (x - base).toNat) (by omega)) ?_)
    clear hl a; intro a hl
    refine wl (wl_val hl rfl ⟨_, _, rfl, rfl, rfl⟩ (r_field hl rfl fld79_1) ?_)
    clear hl a; intro a hl
    first | refine wl (w_load hl hh rfl ⟨_, _, rfl, rfl, rfl⟩ one77 rfl (by repeat (first | exact find_head | apply find_tail)) (by first | rfl) ?_) | refine wl (w_loadR hl hh rfl ⟨_, _, rfl, rfl, rfl⟩ one77 rfl hpre (by simp) (bl_at (i := (x - base).toNat) (by omega)) ?_)
    clear hl a; intro a hl
    refine wl (wl_val hl rfl ⟨_, _, rfl, rfl, rfl⟩ (r_lenS hl rfl slc77) ?_)
    clear hl a; intro a hl
    first | refine wl (wl_val hl rfl ⟨_, _, rfl, rfl, rfl⟩ (r_add hl rfl rfl (by simp only [Fits]; omega)) ?_) | refine wl (wl_val hl rfl ⟨_, _, rfl, rfl, rfl⟩ (r_addW hl rfl rfl) ?_)
    clear hl a; intro a hl
    refine wl (wl_val hl rfl ⟨_, _, rfl, rfl, rfl⟩ (r_lss hl rfl rfl) ?_)
    clear hl a; intro a hl
    refine wl (wl_val hl rfl trivial (r_pickT hl rfl rfl) ?_)
    clear hl a; intro a hl
    refine wl (wl_val hl rfl trivial (r_move hl rfl) ?_)
    clear hl a; intro a hl
    refine sl_split (t := 19) hl rfl ?_ ?_
    · intro hg2; clear hl; intro hl
      try simp only [decide_eq_true_eq, decide_eq_false_iff_not, Bool.not_eq_true', Bool.not_eq_false', Bool.not_eq_true, Bool.not_eq_false, Bool.and_eq_true, Bool.or_eq_true, Bool.and_eq_false_iff, Bool.or_eq_false_iff, Bool.not_not, ne_eq, Int.not_lt, Int.not_le, Decidable.not_not, beq_iff_eq, bne_iff_ne] at hg2
      refine wl (wl_val hl rfl ⟨_, _, rfl, rfl, rfl⟩ (r_field hl rfl fld79_1) ?_)
      clear hl a; intro a hl
      first | refine wl (w_load hl hh rfl ⟨_, _, rfl, rfl, rfl⟩ one77 rfl (by repeat (first | exact find_head | apply find_tail)) (by first | rfl) ?_) | refine wl (w_loadR hl hh rfl ⟨_, _, rfl, rfl, rfl⟩ one77 rfl hpre (by simp) (bl_at (i := (x - base).toNat) (by omega)) ?_)
      clear hl a; intro a hl
      refine wl (wl_val hl rfl ⟨_, _, rfl, rfl, rfl⟩ (r_move hl rfl) ?_)
      clear hl a; intro a hl
      refine wl (wl_val hl rfl ⟨_, _, rfl, rfl, rfl⟩ (r_field hl rfl fld79_0) ?_)
      clear hl a; intro a hl
      first | refine wl (w_load hl hh rfl ⟨_, _, rfl, rfl, rfl⟩ one2 rfl (by repeat (first | exact find_head | apply find_tail)) (by first | rfl) ?_) | refine wl (w_loadR hl hh rfl ⟨_, _, rfl, rfl, rfl⟩ one2 rfl hpre (by simp) (bl_at (i := (x - base).toNat) (by omega)) ?_)
      clear hl a; intro a hl
      first | refine wl (wl_val hl rfl ⟨_, _, rfl, rfl, rfl⟩ (r_sub hl rfl rfl (by simp only [Fits]; omega)) ?_) | refine wl (wl_val hl rfl ⟨_, _, rfl, rfl, rfl⟩ (r_subW hl rfl rfl) ?_)
      clear hl a; intro a hl
      refine wl (wl_val hl rfl ⟨_, _, rfl, rfl, rfl⟩ (r_indexS hl rfl rfl slc77 (by omega) (by omega) (by first | (simp only [Int.reduceToNat]; rfl) | exact toNat_add1 _ | exact toNat_add2 _ _ | exact toNat_emod _ _ | exact Int.toNat_natCast _ | rfl)) ?_)
      clear hl a; intro a hl
      first | refine wl (w_load hl hh rfl ⟨_, _, rfl, rfl, rfl⟩ one4 rfl (by repeat (first | exact find_head | apply find_tail)) (by first | rfl) ?_) | refine wl (w_loadR hl hh rfl ⟨_, _, rfl, rfl, rfl⟩ one4 rfl hpre (by simp) (bl_at (i := (x - base).toNat) (by omega)) ?_)
      clear hl a; intro a hl
      refine wl (wl_val hl rfl trivial (r_pickT hl rfl rfl) ?_)
      clear hl a; intro a hl
      refine wl (wl_val hl rfl trivial (r_assign hl rfl) ?_)
      clear hl a; intro a hl
      refine w_nil ?_
      have hl2 := hl.add (t := 4) (hl.nil) rfl; clear hl; have hl := hl2; clear hl2
      refine then_normal ?_
      refine wp_ret ?_
      refine f_ret1 (F' := []) hl hh rfl rfl (by repeat (first | exact keeps_nil | apply keeps_cons (by repeat (first | exact find_head | apply find_tail)) (by first  | rfl) | exact keeps_self | apply keeps_mv)) ?_
      first | exact ⟨congrArg Value.bool (at_in ⟨by omega, by omega⟩).symm, rfl⟩ | exact ⟨congrArg Value.bool (at_out (by omega)).symm, rfl⟩
    · intro hg2; clear hl; intro hl
      try simp only [decide_eq_true_eq, decide_eq_false_iff_not, Bool.not_eq_true', Bool.not_eq_false', Bool.not_eq_true, Bool.not_eq_false, Bool.and_eq_true, Bool.or_eq_true, Bool.and_eq_false_iff, Bool.or_eq_false_iff, Bool.not_not, ne_eq, Int.not_lt, Int.not_le, Decidable.not_not, beq_iff_eq, bne_iff_ne] at hg2
      refine wl (wl_skip hl rfl ⟨_, _, rfl, rfl, rfl⟩ ?_)
      clear hl a; intro a hl
      refine wl (wl_skip hl rfl ⟨_, _, rfl, rfl, rfl⟩ ?_)
      clear hl a; intro a hl
      refine wl (wl_skip hl rfl ⟨_, _, rfl, rfl, rfl⟩ ?_)
      clear hl a; intro a hl
      refine wl (wl_skip hl rfl ⟨_, _, rfl, rfl, rfl⟩ ?_)
      clear hl a; intro a hl
      refine wl (wl_skip hl rfl ⟨_, _, rfl, rfl, rfl⟩ ?_)
      clear hl a; intro a hl
      refine wl (wl_skip hl rfl ⟨_, _, rfl, rfl, rfl⟩ ?_)
      clear hl a; intro a hl
      refine wl (wl_skip hl rfl ⟨_, _, rfl, rfl, rfl⟩ ?_)
      clear hl a; intro a hl
      refine wl (wl_skip hl rfl ⟨_, _, rfl, rfl, rfl⟩ ?_)
      clear hl a; intro a hl
      refine wl (wl_val hl rfl trivial (r_pickF hl rfl rfl) ?_)
      clear hl a; intro a hl
      refine wl (wl_val hl rfl trivial (r_assign hl rfl) ?_)
      clear hl a; intro a hl
      refine w_nil ?_
      have hl2 := hl.add (t := 4) (hl.nil) rfl; clear hl; have hl := hl2; clear hl2
      refine then_normal ?_
      refine wp_ret ?_
      refine f_ret1 (F' := []) hl hh rfl rfl (by repeat (first | exact keeps_nil | apply keeps_cons (by repeat (first | exact find_head | apply find_tail)) (by first  | rfl) | exact keeps_self | apply keeps_mv)) ?_
      first | exact ⟨congrArg Value.bool (at_in ⟨by omega, by omega⟩).symm, rfl⟩ | exact ⟨congrArg Value.bool (at_out (by omega)).symm, rfl⟩
  · intro hg1; clear hl; intro hl
    try simp only [decide_eq_true_eq, decide_eq_false_iff_not, Bool.not_eq_true', Bool.not_eq_false', Bool.not_eq_true, Bool.not_eq_false, Bool.and_eq_true, Bool.or_eq_true, Bool.and_eq_false_iff, Bool.or_eq_false_iff, Bool.not_not, ne_eq, Int.not_lt, Int.not_le, Decidable.not_not, beq_iff_eq, bne_iff_ne] at hg1
    refine wl (wl_skip hl rfl ⟨_, _, rfl, rfl, rfl⟩ ?_)
    clear hl a; intro a hl
    refine wl (wl_skip hl rfl ⟨_, _, rfl, rfl, rfl⟩ ?_)
    clear hl a; intro a hl
    refine wl (wl_skip hl rfl ⟨_, _, rfl, rfl, rfl⟩ ?_)
    clear hl a; intro a hl
    refine wl (wl_skip hl rfl ⟨_, _, rfl, rfl, rfl⟩ ?_)
    clear hl a; intro a hl
    refine wl (wl_skip hl rfl ⟨_, _, rfl, rfl, rfl⟩ ?_)
    clear hl a; intro a hl
    refine wl (wl_skip hl rfl ⟨_, _, rfl, rfl, rfl⟩ ?_)
    clear hl a; intro a hl
    refine wl (wl_skip hl rfl ⟨_, _, rfl, rfl, rfl⟩ ?_)
    clear hl a; intro a hl
    refine wl (wl_skip hl rfl ⟨_, _, rfl, rfl, rfl⟩ ?_)
    clear hl a; intro a hl
    refine wl (wl_val hl rfl trivial (r_pickF hl rfl rfl) ?_)
    clear hl a; intro a hl
    refine wl (wl_val hl rfl trivial (r_move hl rfl) ?_)
    clear hl a; intro a hl
    refine wl (wl_skip hl rfl ⟨_, _, rfl, rfl, rfl⟩ ?_)
    clear hl a; intro a hl
    refine wl (wl_skip hl rfl ⟨_, _, rfl, rfl, rfl⟩ ?_)
    clear hl a; intro a hl
    refine wl (wl_skip hl rfl ⟨_, _, rfl, rfl, rfl⟩ ?_)
    clear hl a; intro a hl
    refine wl (wl_skip hl rfl ⟨_, _, rfl, rfl, rfl⟩ ?_)
    clear hl a; intro a hl
    refine wl (wl_skip hl rfl ⟨_, _, rfl, rfl, rfl⟩ ?_)
    clear hl a; intro a hl
    refine wl (wl_skip hl rfl ⟨_, _, rfl, rfl, rfl⟩ ?_)
    clear hl a; intro a hl
    refine wl (wl_skip hl rfl ⟨_, _, rfl, rfl, rfl⟩ ?_)
    clear hl a; intro a hl
    refine wl (wl_skip hl rfl ⟨_, _, rfl, rfl, rfl⟩ ?_)
    clear hl a; intro a hl
    refine wl (wl_val hl rfl trivial (r_pickF hl rfl rfl) ?_)
    clear hl a; intro a hl
    refine wl (wl_val hl rfl trivial (r_assign hl rfl) ?_)
    clear hl a; intro a hl
    refine w_nil ?_
    have hl2 := hl.add (t := 4) (hl.nil) rfl; clear hl; have hl := hl2; clear hl2
    refine then_normal ?_
    refine wp_ret ?_
    refine f_ret1 (F' := []) hl hh rfl rfl (by repeat (first | exact keeps_nil | apply keeps_cons (by repeat (first | exact find_head | apply find_tail)) (by first  | rfl) | exact keeps_self | apply keeps_mv)) ?_
    first | exact ⟨congrArg Value.bool (at_in ⟨by omega, by omega⟩).symm, rfl⟩ | exact ⟨congrArg Value.bool (at_out (by omega)).symm, rfl⟩
end Go.Proofs.Qxb6500912aGreatDoor

import Derived.Test.Qxb6500909aDoorRows
import Derived.Test.Qxb6500909aDoorArr
import Derived.KernelRfl
namespace Go.Proofs.Qxb6500909aDoor
open Go.Eng
set_option linter.unusedVariables false
set_option linter.unusedSimpArgs false
theorem slc29 : slcOk Tryd.prog 29 1 = true := by kernel_rfl
theorem one5 : oneOk Tryd.prog 5 = true := by kernel_rfl
def bV (g : Nat → Int) : Nat → Value := fun i => .int .u8 (g i)
def byteN (v i : Nat) : Nat := v / 256 ^ i % 256
def putF (g : Nat → Int) (o n v : Nat) : Nat → Int := fun j => if o ≤ j ∧ j < o + n then ((byteN v (j - o) : Nat) : Int) else g j
theorem wrap_u8 (m : Nat) : IntKind.u8.wrap (m : Int) = ((m % 256 : Nat) : Int) := by
  simp [IntKind.wrap, IntKind.signed, IntKind.bits]
theorem pow256 (i : Nat) : 2 ^ (8 * i) = 256 ^ i := by rw [Nat.pow_mul]
theorem shrB (v i B : Nat) (h : 8 * i ≤ B) : IntKind.u8.wrap ((v : Int).fdiv (2 ^ (min (8 * (i : Int)).toNat B))) = ((byteN v i : Nat) : Int) := by
  have e : min (8 * (i : Int)).toNat B = 8 * i := by omega
  rw [e]
  have e2 : (v : Int).fdiv (2 ^ (8 * i)) = ((v / 256 ^ i : Nat) : Int) := by
    rw [Int.fdiv_eq_ediv_of_nonneg _ (by exact Int.pow_nonneg (by decide)), ← pow256 i]
    norm_cast
  rw [e2, wrap_u8]; rfl
theorem r_xorI {P : Program} {n : Nat} {L : List (Nat × Value)} {a : Act} {w : World} {T : TypeId} {pos : String} {aft : Array Edge} {g : Option (Nat × Bool)} {dst : Option Nat} {x : Operand} {t : TypeId} {i : Int} (hl : Sl n L a) (hx : val L x = some (.int .u32 i)) :
    Gives P a ⟨dst, .unOp .xor t x, T, pos, aft, g⟩ w (.int .u32 (bitsOf .xor .u32 4294967295 i)) w := by
  simp [Gives, execOp, hl.ev hx, Op.unary, Op.intBits, bitsOf, IntKind.signed, IntKind.max, IntKind.bits]
theorem put_zero (g : Nat → Int) (o v : Nat) (N : Nat) (T : TypeId) : C (arrL N (bV g)) T = C (arrL N (bV (putF g o 0 v))) T := arr_obj fun j _ => by unfold bV putF; rw [if_neg (by omega)]
theorem put_next (g : Nat → Int) (o i v N : Nat) (h : o + i < N) : setL (arrL N (bV (putF g o i v))) (o + i * 1) [.int .u8 ((byteN v i : Nat) : Int)] = arrL N (bV (putF g o (i + 1) v)) := by
  rw [Nat.mul_one, arrL_set h]
  refine arrL_congr fun j hj => ?_
  unfold updV bV putF
  by_cases e : j = o + i
  · subst e; rw [if_pos rfl, if_pos (by omega), show o + i - o = i by omega]
  · rw [if_neg e]
    by_cases c : o ≤ j ∧ j < o + i
    · rw [if_pos c, if_pos (by omega)]
    · rw [if_neg c, if_neg (by omega)]
/-- the number that n bytes make, low byte first -/
def valN (b : Nat → Nat) : Nat → Nat
  | 0 => 0
  | n + 1 => valN b n + b n * 256 ^ n
theorem valN_lt (b : Nat → Nat) (n : Nat) (h : ∀ i, i < n → b i < 256) : valN b n < 256 ^ n := by
  induction n with
  | zero => exact Nat.one_pos
  | succ n ih =>
    have h1 := ih fun i hi => h i (by omega)
    have h2 := h n (by omega)
    unfold valN
    rw [Nat.pow_succ]
    have h3 : b n * 256 ^ n ≤ 255 * 256 ^ n := Nat.mul_le_mul_right _ (by omega)
    omega
theorem valN_byte (v n : Nat) : valN (byteN v) n = v % 256 ^ n := by
  induction n with
  | zero => simp [valN, Nat.mod_one]
  | succ n ih =>
    show valN (byteN v) n + (v / 256 ^ n % 256) * 256 ^ n = v % 256 ^ (n + 1)
    rw [ih, Nat.pow_succ, Nat.mod_mul]
    rw [Nat.mul_comm (v / 256 ^ n % 256)]
theorem orB (k : IntKind) (hk : k = .u16 ∨ k = .u32 ∨ k = .u64) (v b i : Nat) (hi : 8 * (i + 1) ≤ k.bits) (hv : v < 256 ^ i) (hb : b < 256) :
    bitsOf .or k (v : Int) (k.wrap ((b : Int) * 2 ^ (min (8 * (i : Int)).toNat k.bits))) = ((v + b * 256 ^ i : Nat) : Int) := by
  have e : min (8 * (i : Int)).toNat k.bits = 8 * i := by omega
  have hsz : v + b * 256 ^ i < 2 ^ k.bits := by
    have h1 : 256 ^ (i + 1) ≤ 2 ^ k.bits := by rw [← pow256]; exact Nat.pow_le_pow_right (by decide) hi
    rw [Nat.pow_succ] at h1
    have h3 : b * 256 ^ i ≤ 255 * 256 ^ i := Nat.mul_le_mul_right _ (by omega)
    omega
  have hw : ∀ m : Nat, m < 2 ^ k.bits → k.wrap (m : Int) = (m : Int) := by
    intro m hm
    refine wrap_fits ?_
    rcases hk with rfl | rfl | rfl <;> simp only [Fits, IntKind.bits] at hm ⊢ <;> omega
  have e2 : (b : Int) * 2 ^ (8 * i) = ((b * 256 ^ i : Nat) : Int) := by rw [← pow256 i]; push_cast; rfl
  rw [e, e2, hw _ (by omega)]
  show k.wrap ((BitVec.ofInt k.bits (v : Int) ||| BitVec.ofInt k.bits ((b * 256 ^ i : Nat) : Int)).toNat : Int) = _
  have hn : ∀ m : Nat, m < 2 ^ k.bits → (BitVec.ofInt k.bits (m : Int)).toNat = m := by
    intro m hm
    rw [BitVec.toNat_ofInt]
    have : ((m : Int) % ((2 ^ k.bits : Nat) : Int)) = (m : Int) := by
      rw [← Int.natCast_emod, Nat.mod_eq_of_lt hm]
    rw [this, Int.toNat_natCast]
  rw [BitVec.toNat_or, hn v (by omega), hn _ (by omega)]
  have h4 : v ||| (b * 256 ^ i) = v + b * 256 ^ i := by
    rw [← pow256 i, Nat.mul_comm b, Nat.or_comm, ← Nat.two_pow_add_eq_or_of_lt (by rw [pow256]; exact hv)]
    omega
  rw [h4]
  exact hw _ hsz


set_option maxHeartbeats 1000000 in
theorem putU32_spec (kb N o ln cp : Nat) (T : TypeId) (g : Nat → Int) (v : Nat) (h1 : 4 ≤ ln) (h2 : ln ≤ cp) (h3 : o + cp ≤ N) (h4 : N ≤ 1000000) : Sp Tryd.prog 57 #[.slice (some ⟨kb, o, none⟩) ln cp, .int .u32 (v : Int)] [(kb, C (arrL N (bV (g))) T)] (fun u F' => u = .tuple #[] ∧ F' = [(kb, C (arrL N (bV (putF g o 4 v))) T)]) := by
  refine f_enter (args := [.slice (some ⟨kb, o, none⟩) ln cp, .int .u32 (v : Int)]) Tryd.func57 rfl Tryd.ntmps57 rfl ?_
  intro w0 w a hpre hl hh
  simp only [slotsFrom, Nat.reduceAdd] at hl
  refine c_seq ?_
  refine c_region ?_
  refine wl (wl_val hl rfl trivial (r_assign hl rfl) ?_)
  clear hl a; intro a hl
  refine w_nil ?_
  have hl2 := hl.add (t := 0) (hl.add (t := 1) (hl.add (t := 4) (hl.nil) rfl) rfl) rfl; clear hl; have hl := hl2; clear hl2
  refine then_normal ?_
  refine wp_block ?_
  obtain ⟨KS0, hKS0, hk⟩ := (hl.add (t := 0) (hl.add (t := 1) (hl.nil) rfl) rfl).name
  obtain ⟨HS0, hHS0, hh2⟩ := hh.name (keeps_cons (b := kb) (o' := C (arrL N (bV (putF g o 0 v))) T) (by repeat (first | exact find_head | apply find_tail)) (by first | exact put_zero _ _ _ _ _ | rfl) (keeps_nil))
  refine c_loop (α := Nat) (fun i => 4 - i) (fun i a w => (i ≤ 4) ∧ Sl 18 ([(4, .int .i64 i)] ++ KS0) a ∧ Has _ w0 ([(kb, C (arrL N (bV (putF g o i v))) T)] ++ HS0) w) 0 ⟨Nat.zero_le _, hl.addE (t := 4) (hk) rfl (by first | rfl), hh2⟩ ?_
  clear hk hh2 hl hh a w
  intro i a w hI
  obtain ⟨hi, hl, hh⟩ := hI
  subst hKS0; subst hHS0
  simp only [List.cons_append, List.nil_append, List.append_nil] at hl hh
  refine c_seq ?_
  refine c_seq ?_
  refine c_region ?_
  refine wl (wl_val hl rfl trivial (r_move hl rfl) ?_)
  clear hl a; intro a hl
  refine wl (wl_val hl rfl trivial (r_lss hl rfl rfl) ?_)
  clear hl a; intro a hl
  refine w_nil ?_
  have hl2 := hl.add (t := 0) (hl.add (t := 1) (hl.add (t := 4) (hl.add (t := 6) (hl.nil) rfl) rfl) rfl) rfl; clear hl; have hl := hl2; clear hl2
  refine then_normal ?_
  refine c_cond hl rfl ?_ ?_
  · intro hc0
    try simp only [decide_eq_true_eq, decide_eq_false_iff_not, Bool.not_eq_true', Bool.not_eq_false', Bool.not_eq_true, Bool.not_eq_false, Bool.and_eq_true, Bool.or_eq_true, Bool.and_eq_false_iff, Bool.or_eq_false_iff, Bool.not_not, ne_eq, Int.not_lt, Int.not_le, Decidable.not_not, beq_iff_eq, bne_iff_ne] at hc0
    refine wp_skip ?_
    refine then_normal ?_
    refine c_seq ?_
    refine wp_block ?_
    refine c_region ?_
    refine wl (wl_val hl rfl trivial (r_move hl rfl) ?_)
    clear hl a; intro a hl
    refine wl (wl_val hl rfl trivial (r_move hl rfl) ?_)
    clear hl a; intro a hl
    refine wl (wl_val hl rfl trivial (r_move hl rfl) ?_)
    clear hl a; intro a hl
    refine wl (wl_val hl rfl trivial (r_move hl rfl) ?_)
    clear hl a; intro a hl
    first | refine wl (wl_val hl rfl trivial (r_conv hl rfl Tryd.underlying3 Tryd.underlying57 (by simp only [Fits]; omega)) ?_) | refine wl (wl_val hl rfl trivial (r_convW hl rfl Tryd.underlying3 Tryd.underlying57) ?_)
    clear hl a; intro a hl
    first | refine wl (wl_val hl rfl trivial (r_mul hl rfl rfl (by simp only [Fits]; omega)) ?_) | refine wl (wl_val hl rfl trivial (r_mulW hl rfl rfl) ?_)
    clear hl a; intro a hl
    refine wl (wl_val hl rfl trivial (r_shr hl rfl rfl (by omega)) ?_)
    clear hl a; intro a hl
    first | refine wl (wl_val hl rfl trivial (r_conv hl rfl Tryd.underlying56 Tryd.underlying5 (by simp only [Fits]; omega)) ?_) | refine wl (wl_val hl rfl trivial (r_convW hl rfl Tryd.underlying56 Tryd.underlying5) ?_)
    clear hl a; intro a hl
    rw [shrB _ _ _ (by show _ ≤ 32; omega)] at hl
    refine wl (wl_val hl rfl trivial (r_indexS hl rfl rfl slc29 (by omega) (by omega) (by first | (simp only [Int.reduceToNat]; rfl) | exact toNat_add1 _ | exact toNat_add2 _ _ | exact toNat_emod _ _ | exact Int.toNat_natCast _ | rfl)) ?_)
    clear hl a; intro a hl
    refine wl (w_store hl hh trivial one5 rfl rfl (by repeat (first | exact find_head | apply find_tail)) (by rw [arrL_length]; omega) (by first | rfl | assumption | (apply Row.one; assumption)) (by exact put_next _ _ _ _ _ (by omega)) ?_)
    clear hh w; intro w hh
    refine w_nil ?_
    have hl2 := hl.add (t := 0) (hl.add (t := 1) (hl.add (t := 4) (hl.nil) rfl) rfl) rfl; clear hl; have hl := hl2; clear hl2
    refine blk_normal ?_
    refine then_normal ?_
    refine c_region ?_
    refine wl (wl_val hl rfl trivial (r_move hl rfl) ?_)
    clear hl a; intro a hl
    first | refine wl (wl_val hl rfl trivial (r_add hl rfl rfl (by simp only [Fits]; omega)) ?_) | refine wl (wl_val hl rfl trivial (r_addW hl rfl rfl) ?_)
    clear hl a; intro a hl
    refine wl (wl_val hl rfl trivial (r_assign hl rfl) ?_)
    clear hl a; intro a hl
    refine w_nil ?_
    have hl2 := hl.add (t := 0) (hl.add (t := 1) (hl.add (t := 4) (hl.nil) rfl) rfl) rfl; clear hl; have hl := hl2; clear hl2
    refine then_normal ?_
    refine ⟨i + 1, (by omega), (by omega), hl.addE (t := 4) (hl.addE (t := 0) (hl.addE (t := 1) (hl.nil) rfl (by first | rfl | rfl)) rfl (by first | rfl | rfl)) rfl (by first | rfl | rfl), hh.keep (by repeat (first | exact keeps_nil | apply keeps_cons (by repeat (first | exact find_head | apply find_tail)) (by first  | rfl) | exact keeps_self | apply keeps_mv))⟩
  · intro hc0
    try simp only [decide_eq_true_eq, decide_eq_false_iff_not, Bool.not_eq_true', Bool.not_eq_false', Bool.not_eq_true, Bool.not_eq_false, Bool.and_eq_true, Bool.or_eq_true, Bool.and_eq_false_iff, Bool.or_eq_false_iff, Bool.not_not, ne_eq, Int.not_lt, Int.not_le, Decidable.not_not, beq_iff_eq, bne_iff_ne] at hc0
    obtain rfl : i = 4 := by omega
    refine wp_exit ?_
    refine then_exit ?_
    refine then_exit ?_
    refine blk_exit ?_
    refine f_end0 (F' := [(kb, C (arrL N (bV (putF g o 4 v))) T)]) hl hh rfl (by repeat (first | exact keeps_nil | apply keeps_cons (by repeat (first | exact find_head | apply find_tail)) (by first  | rfl) | exact keeps_self | apply keeps_mv)) ?_
    exact ⟨rfl, rfl⟩

set_option maxHeartbeats 1000000 in
theorem putU64_spec (kb N o ln cp : Nat) (T : TypeId) (g : Nat → Int) (v : Nat) (h1 : 8 ≤ ln) (h2 : ln ≤ cp) (h3 : o + cp ≤ N) (h4 : N ≤ 1000000) : Sp Tryd.prog 56 #[.slice (some ⟨kb, o, none⟩) ln cp, .int .u64 (v : Int)] [(kb, C (arrL N (bV (g))) T)] (fun u F' => u = .tuple #[] ∧ F' = [(kb, C (arrL N (bV (putF g o 8 v))) T)]) := by
  refine f_enter (args := [.slice (some ⟨kb, o, none⟩) ln cp, .int .u64 (v : Int)]) Tryd.func56 rfl Tryd.ntmps56 rfl ?_
  intro w0 w a hpre hl hh
  simp only [slotsFrom, Nat.reduceAdd] at hl
  refine c_seq ?_
  refine c_region ?_
  refine wl (wl_val hl rfl trivial (r_assign hl rfl) ?_)
  clear hl a; intro a hl
  refine w_nil ?_
  have hl2 := hl.add (t := 0) (hl.add (t := 1) (hl.add (t := 4) (hl.nil) rfl) rfl) rfl; clear hl; have hl := hl2; clear hl2
  refine then_normal ?_
  refine wp_block ?_
  obtain ⟨KS0, hKS0, hk⟩ := (hl.add (t := 0) (hl.add (t := 1) (hl.nil) rfl) rfl).name
  obtain ⟨HS0, hHS0, hh2⟩ := hh.name (keeps_cons (b := kb) (o' := C (arrL N (bV (putF g o 0 v))) T) (by repeat (first | exact find_head | apply find_tail)) (by first | exact put_zero _ _ _ _ _ | rfl) (keeps_nil))
  refine c_loop (α := Nat) (fun i => 8 - i) (fun i a w => (i ≤ 8) ∧ Sl 18 ([(4, .int .i64 i)] ++ KS0) a ∧ Has _ w0 ([(kb, C (arrL N (bV (putF g o i v))) T)] ++ HS0) w) 0 ⟨Nat.zero_le _, hl.addE (t := 4) (hk) rfl (by first | rfl), hh2⟩ ?_
  clear hk hh2 hl hh a w
  intro i a w hI
  obtain ⟨hi, hl, hh⟩ := hI
  subst hKS0; subst hHS0
  simp only [List.cons_append, List.nil_append, List.append_nil] at hl hh
  refine c_seq ?_
  refine c_seq ?_
  refine c_region ?_
  refine wl (wl_val hl rfl trivial (r_move hl rfl) ?_)
  clear hl a; intro a hl
  refine wl (wl_val hl rfl trivial (r_lss hl rfl rfl) ?_)
  clear hl a; intro a hl
  refine w_nil ?_
  have hl2 := hl.add (t := 0) (hl.add (t := 1) (hl.add (t := 4) (hl.add (t := 6) (hl.nil) rfl) rfl) rfl) rfl; clear hl; have hl := hl2; clear hl2
  refine then_normal ?_
  refine c_cond hl rfl ?_ ?_
  · intro hc0
    try simp only [decide_eq_true_eq, decide_eq_false_iff_not, Bool.not_eq_true', Bool.not_eq_false', Bool.not_eq_true, Bool.not_eq_false, Bool.and_eq_true, Bool.or_eq_true, Bool.and_eq_false_iff, Bool.or_eq_false_iff, Bool.not_not, ne_eq, Int.not_lt, Int.not_le, Decidable.not_not, beq_iff_eq, bne_iff_ne] at hc0
    refine wp_skip ?_
    refine then_normal ?_
    refine c_seq ?_
    refine wp_block ?_
    refine c_region ?_
    refine wl (wl_val hl rfl trivial (r_move hl rfl) ?_)
    clear hl a; intro a hl
    refine wl (wl_val hl rfl trivial (r_move hl rfl) ?_)
    clear hl a; intro a hl
    refine wl (wl_val hl rfl trivial (r_move hl rfl) ?_)
    clear hl a; intro a hl
    refine wl (wl_val hl rfl trivial (r_move hl rfl) ?_)
    clear hl a; intro a hl
    first | refine wl (wl_val hl rfl trivial (r_conv hl rfl Tryd.underlying3 Tryd.underlying57 (by simp only [Fits]; omega)) ?_) | refine wl (wl_val hl rfl trivial (r_convW hl rfl Tryd.underlying3 Tryd.underlying57) ?_)
    clear hl a; intro a hl
    first | refine wl (wl_val hl rfl trivial (r_mul hl rfl rfl (by simp only [Fits]; omega)) ?_) | refine wl (wl_val hl rfl trivial (r_mulW hl rfl rfl) ?_)
    clear hl a; intro a hl
    refine wl (wl_val hl rfl trivial (r_shr hl rfl rfl (by omega)) ?_)
    clear hl a; intro a hl
    first | refine wl (wl_val hl rfl trivial (r_conv hl rfl Tryd.underlying30 Tryd.underlying5 (by simp only [Fits]; omega)) ?_) | refine wl (wl_val hl rfl trivial (r_convW hl rfl Tryd.underlying30 Tryd.underlying5) ?_)
    clear hl a; intro a hl
    rw [shrB _ _ _ (by show _ ≤ 64; omega)] at hl
    refine wl (wl_val hl rfl trivial (r_indexS hl rfl rfl slc29 (by omega) (by omega) (by first | (simp only [Int.reduceToNat]; rfl) | exact toNat_add1 _ | exact toNat_add2 _ _ | exact toNat_emod _ _ | exact Int.toNat_natCast _ | rfl)) ?_)
    clear hl a; intro a hl
    refine wl (w_store hl hh trivial one5 rfl rfl (by repeat (first | exact find_head | apply find_tail)) (by rw [arrL_length]; omega) (by first | rfl | assumption | (apply Row.one; assumption)) (by exact put_next _ _ _ _ _ (by omega)) ?_)
    clear hh w; intro w hh
    refine w_nil ?_
    have hl2 := hl.add (t := 0) (hl.add (t := 1) (hl.add (t := 4) (hl.nil) rfl) rfl) rfl; clear hl; have hl := hl2; clear hl2
    refine blk_normal ?_
    refine then_normal ?_
    refine c_region ?_
    refine wl (wl_val hl rfl trivial (r_move hl rfl) ?_)
    clear hl a; intro a hl
    first | refine wl (wl_val hl rfl trivial (r_add hl rfl rfl (by simp only [Fits]; omega)) ?_) | refine wl (wl_val hl rfl trivial (r_addW hl rfl rfl) ?_)
    clear hl a; intro a hl
    refine wl (wl_val hl rfl trivial (r_assign hl rfl) ?_)
    clear hl a; intro a hl
    refine w_nil ?_
    have hl2 := hl.add (t := 0) (hl.add (t := 1) (hl.add (t := 4) (hl.nil) rfl) rfl) rfl; clear hl; have hl := hl2; clear hl2
    refine then_normal ?_
    refine ⟨i + 1, (by omega), (by omega), hl.addE (t := 4) (hl.addE (t := 0) (hl.addE (t := 1) (hl.nil) rfl (by first | rfl | rfl)) rfl (by first | rfl | rfl)) rfl (by first | rfl | rfl), hh.keep (by repeat (first | exact keeps_nil | apply keeps_cons (by repeat (first | exact find_head | apply find_tail)) (by first  | rfl) | exact keeps_self | apply keeps_mv))⟩
  · intro hc0
    try simp only [decide_eq_true_eq, decide_eq_false_iff_not, Bool.not_eq_true', Bool.not_eq_false', Bool.not_eq_true, Bool.not_eq_false, Bool.and_eq_true, Bool.or_eq_true, Bool.and_eq_false_iff, Bool.or_eq_false_iff, Bool.not_not, ne_eq, Int.not_lt, Int.not_le, Decidable.not_not, beq_iff_eq, bne_iff_ne] at hc0
    obtain rfl : i = 8 := by omega
    refine wp_exit ?_
    refine then_exit ?_
    refine then_exit ?_
    refine blk_exit ?_
    refine f_end0 (F' := [(kb, C (arrL N (bV (putF g o 8 v))) T)]) hl hh rfl (by repeat (first | exact keeps_nil | apply keeps_cons (by repeat (first | exact find_head | apply find_tail)) (by first  | rfl) | exact keeps_self | apply keeps_mv)) ?_
    exact ⟨rfl, rfl⟩
end Go.Proofs.Qxb6500909aDoor

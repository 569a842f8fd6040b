import Derived.Test.Qxb6500908aGreatRows
import Derived.Test.Qxb6500908aGreatEng
import Derived.Test.Qxb6500908aGreatStr
import Derived.Test.Qxb6500908aGreatFun
import Derived.Test.Qxb6500908aGreatByt
import Derived.Test.Qxb6500908aGreatCut
import Derived.Test.Qxb6500908aGreatRw
import Derived.Test.Qxb6500908aGreatMks
import Derived.Test.Qxb6500908aGreatMkn
import Derived.Test.Qxb6500908aGreatUmd
import Derived.Test.Qxb6500908aGreatIns
import Derived.Test.Qxb6500908aGreatIfc
import Derived.Test.Qxb6500908aGreatMap
import Derived.Test.Qxb6500908aGreatMrg
import Derived.Test.Qxb6500908aGreatVwg
import Derived.KernelRfl
namespace Go.Proofs.Qxb6500908aGreat
open Go.Eng
set_option linter.unusedVariables false
set_option linter.unusedSimpArgs false
theorem zero41 : zeroOk Tryz.prog 41 (.agg #[(.int .u8 0), (.int .u8 0)]) := by unfold zeroOk; kernel_rfl
theorem bld41 : buildOk Tryz.prog 41 [(0, 1), (1, 1)] = true := by kernel_rfl
theorem agg41 : aggOk Tryz.prog 41 2 = true := by kernel_rfl
theorem cal62 : callable Tryz.prog 62 = true := by kernel_rfl
theorem cal54 : callable Tryz.prog 54 = true := by kernel_rfl
def letB (c : Int) : Bool := decide (97 ≤ c) && decide (c ≤ 122)

def digB (c : Int) : Bool := decide (48 ≤ c) && decide (c ≤ 57)

def gD (l : List Int) (i : Nat) : Int := l.getD i 0

theorem dr {l : List Int} {i : Nat} (h : i < l.length) : l.drop i = gD l i :: l.drop (i + 1) := by
  rw [List.drop_eq_getElem_cons h]
  congr 1
  unfold gD
  rw [List.getD_eq_getElem?_getD, List.getElem?_eq_getElem h]; rfl

theorem dr_end {l : List Int} {i : Nat} (h : l.length ≤ i) : l.drop i = [] := List.drop_of_length_le h

def sEq (a b : ByteArray) : Bool := a.toList == b.toList

/-- a change -/
structure Ch where
  kd : Int
  dv : Int
  pr : Int
  ix : Int
  up : Bool
  ra : Int
  rl : Int
  via : Int
  pm : Bool
  da : Int
  dl : Int
  cl : Int

def Ch.vals (c : Ch) : List Value := [.int .u8 c.kd, .int .u8 c.dv, .int .u8 c.pr, .int .u8 c.ix, .bool c.up, .int .u8 c.ra, .int .u8 c.rl, .int .u8 c.via, .bool c.pm, .int .u8 c.da, .int .u8 c.dl, .int .u8 c.cl]

def Ch.lits (c : Ch) : List Lit := [.int .u8 c.kd, .int .u8 c.dv, .int .u8 c.pr, .int .u8 c.ix, .bool c.up, .int .u8 c.ra, .int .u8 c.rl, .int .u8 c.via, .bool c.pm, .int .u8 c.da, .int .u8 c.dl, .int .u8 c.cl]

structure Ch.ok (c : Ch) : Prop where
  kd : 0 ≤ c.kd ∧ c.kd ≤ 255
  dv : 0 ≤ c.dv ∧ c.dv ≤ 255
  pr : 0 ≤ c.pr ∧ c.pr ≤ 255
  ix : 0 ≤ c.ix ∧ c.ix ≤ 255
  ra : 0 ≤ c.ra ∧ c.ra ≤ 255
  rl : 0 ≤ c.rl ∧ c.rl ≤ 255
  via : 0 ≤ c.via ∧ c.via ≤ 255
  da : 0 ≤ c.da ∧ c.da ≤ 255
  dl : 0 ≤ c.dl ∧ c.dl ≤ 255
  cl : 0 ≤ c.cl ∧ c.cl ≤ 255

def sRoute : ByteArray := ⟨#[114, 111, 117, 116, 101]⟩

def sAcl : ByteArray := ⟨#[97, 99, 108]⟩

def sLink : ByteArray := ⟨#[108, 105, 110, 107]⟩

def sIface : ByteArray := ⟨#[105, 102, 97, 99, 101]⟩

def sAdd : ByteArray := ⟨#[97, 100, 100]⟩

def sDel : ByteArray := ⟨#[100, 101, 108]⟩

def sVia : ByteArray := ⟨#[118, 105, 97]⟩

def sLocal : ByteArray := ⟨#[108, 111, 99, 97, 108]⟩

def sInsert : ByteArray := ⟨#[105, 110, 115, 101, 114, 116]⟩

def sRemove : ByteArray := ⟨#[114, 101, 109, 111, 118, 101]⟩

def sPermit : ByteArray := ⟨#[112, 101, 114, 109, 105, 116]⟩

def sDeny : ByteArray := ⟨#[100, 101, 110, 121]⟩

def sClass : ByteArray := ⟨#[99, 108, 97, 115, 115]⟩

def sAny : ByteArray := ⟨#[97, 110, 121]⟩

def sUp : ByteArray := ⟨#[117, 112]⟩

def sDown : ByteArray := ⟨#[100, 111, 119, 110]⟩

theorem sEq_t {a b : ByteArray} (h : a.toList = b.toList) : sEq a b = true := by unfold sEq; simpa using h

theorem digB_iff {c : Int} : digB c = true ↔ 48 ≤ c ∧ c ≤ 57 := by unfold digB; simp

def nmF (mx : Int) : Int → List Int → Option Int
  | v, [] => some v
  | v, d :: ds => if digB d then (if v * 10 + (d - 48) > mx then none else nmF mx (v * 10 + (d - 48)) ds) else none

def bys (w : ByteArray) : List Int := (List.range w.size).map (fun i => byteAt w i)

theorem bys_len (w : ByteArray) : (bys w).length = w.size := by unfold bys; simp

theorem bys_at {w : ByteArray} {i : Nat} (h : i < w.size) : gD (bys w) i = byteAt w i := by
  unfold gD bys
  rw [List.getD_eq_getElem?_getD, List.getElem?_map, List.getElem?_range h]; rfl

def nmW (w : ByteArray) (mx : Int) : Option Int := if w.size = 0 then none else nmF mx 0 (bys w)

theorem nmF_take {mx : Int} {ds : List Int} {i : Nat} {v : Int} (h : i < ds.length) : nmF mx v (ds.drop i) = if digB (gD ds i) then (if v * 10 + (gD ds i - 48) > mx then none else nmF mx (v * 10 + (gD ds i - 48)) (ds.drop (i + 1))) else none := by
  rw [dr h]; rfl

theorem nmF_rng {mx : Int} : ∀ (ds : List Int) (v m : Int), 0 ≤ v → v ≤ mx → nmF mx v ds = some m → 0 ≤ m ∧ m ≤ mx
  | [], v, m, h1, h2, h => by injection h with h; subst h; exact ⟨h1, h2⟩
  | d :: ds, v, m, h1, h2, h => by
    unfold nmF at h
    split at h
    · rename_i hd
      have := digB_iff.1 hd
      split at h
      · cases h
      · exact nmF_rng ds _ m (by omega) (by omega) h
    · cases h

theorem nmW_rng {w : ByteArray} {mx m : Int} (hm : 0 ≤ mx) (h : nmW w mx = some m) : 0 ≤ m ∧ m ≤ mx := by
  unfold nmW at h
  split at h
  · cases h
  · exact nmF_rng _ 0 m (Int.le_refl _) hm h

theorem nmW_g {w : ByteArray} {mx : Int} (hm : 0 ≤ mx) : 0 ≤ (nmW w mx).getD 0 ∧ (nmW w mx).getD 0 ≤ mx := by
  cases h : nmW w mx with
  | none => exact ⟨Int.le_refl _, hm⟩
  | some m => exact nmW_rng hm h

def dvM (w : ByteArray) : Option Int := if w.size = 0 ∨ byteAt w 0 ≠ 114 then none else nmW (w.extract 1 w.size) 15

def pfM (a s l : ByteArray) : Bool := (nmW a 255).isSome && (nmW l 8).isSome && sEq s ⟨#[47]⟩

theorem str_eq {a b : ByteArray} (h : a.toList = b.toList) : a = b := by
  rw [ByteArray.toList_eq, ByteArray.toList_eq] at h
  exact Go.WideShapes.bytes_inj h

theorem size0_list {u : ByteArray} (h : u.toList = (⟨#[]⟩ : ByteArray).toList) : u.size = 0 := by rw [str_eq h]; rfl

theorem size_ne {u : ByteArray} (h : (u.toList == (⟨#[]⟩ : ByteArray).toList) = false) : ¬ u.size = 0 := fun q => by
  have h9 : u = ⟨#[]⟩ := by
    apply ByteArray.ext
    exact Array.eq_empty_of_size_eq_zero q
  rw [h9] at h
  simp at h

theorem dvM_n {u : ByteArray} (h : u.size = 0 ∨ byteAt u 0 ≠ 114) : dvM u = none := by unfold dvM; rw [if_pos h]

theorem dvM_s {u : ByteArray} (h : ¬ (u.size = 0 ∨ byteAt u 0 ≠ 114)) : dvM u = nmW (u.extract 1 u.size) 15 := by unfold dvM; rw [if_neg h]

theorem dvM_g (u : ByteArray) : 0 ≤ (dvM u).getD 0 ∧ (dvM u).getD 0 ≤ 15 := by
  unfold dvM
  split
  · exact ⟨Int.le_refl _, by decide⟩
  · exact nmW_g (by decide)

theorem str0 (u : ByteArray) : (u.toList == (⟨#[]⟩ : ByteArray).toList) = decide (u.size = 0) := by
  by_cases h : u.size = 0
  · rw [decide_eq_true h]
    have h9 : u = ⟨#[]⟩ := by
      apply ByteArray.ext
      exact Array.eq_empty_of_size_eq_zero h
    rw [h9]; simp
  · rw [decide_eq_false h]
    cases hq : (u.toList == (⟨#[]⟩ : ByteArray).toList)
    · rfl
    · exact absurd (size0_list (eq_of_beq hq)) h

def oo (x y z : ByteArray) : Bool := sEq x y || sEq x z

set_option maxHeartbeats 1000000 in
theorem letterM (x : Int) : Sp Tryz.prog 61 #[.int .u8 x] [] (fun v F' => v = .bool (letB x) ∧ F' = []) := by
  refine f_enter (args := [.int .u8 x]) Tryz.func61 rfl Tryz.ntmps61 rfl ?_
  intro w0 w a hpre hl hh
  simp only [slotsFrom, Nat.reduceAdd] at hl
  refine c_seq ?_
  refine c_region ?_
  refine wl (wl_val hl rfl trivial (r_assign hl rfl) ?_)
  clear hl a; intro a hl
  refine w_nil ?_
  have hl2 := hl.add (t := 0) (hl.nil) rfl; clear hl; have hl := hl2; clear hl2
  refine then_normal ?_
  refine c_seq ?_
  refine c_region ?_
  refine wl (wl_val hl rfl trivial (r_move hl rfl) ?_)
  clear hl a; intro a hl
  refine wl (wl_val hl rfl trivial (r_geq hl rfl rfl) ?_)
  clear hl a; intro a hl
  refine wl (wl_val hl rfl trivial (r_move hl rfl) ?_)
  clear hl a; intro a hl
  refine sl_split (t := 5) hl rfl ?_ ?_
  · intro hg1; clear hl; intro hl
    try simp only [decide_eq_true_eq, decide_eq_false_iff_not, Bool.not_eq_true', Bool.not_eq_false', Bool.not_eq_true, Bool.not_eq_false, Bool.and_eq_true, Bool.or_eq_true, Bool.and_eq_false_iff, Bool.or_eq_false_iff, Bool.not_not, ne_eq, Int.not_lt, Int.not_le, Decidable.not_not, beq_iff_eq, bne_iff_ne] at hg1
    refine wl (wl_val hl rfl ⟨_, _, rfl, rfl, rfl⟩ (r_move hl rfl) ?_)
    clear hl a; intro a hl
    refine wl (wl_val hl rfl ⟨_, _, rfl, rfl, rfl⟩ (r_leq hl rfl rfl) ?_)
    clear hl a; intro a hl
    refine wl (wl_val hl rfl trivial (r_pickT hl rfl rfl) ?_)
    clear hl a; intro a hl
    refine wl (wl_val hl rfl trivial (r_assign hl rfl) ?_)
    clear hl a; intro a hl
    refine w_nil ?_
    have hl2 := hl.add (t := 2) (hl.nil) rfl; clear hl; have hl := hl2; clear hl2
    refine then_normal ?_
    refine wp_ret ?_
    refine f_ret1 (F' := []) hl hh rfl rfl (by repeat (first | exact keeps_nil | apply keeps_cons (by repeat (first | exact find_head | apply find_tail)) (by first  | rfl) | exact keeps_self | apply keeps_mv)) ?_
    exact ⟨by unfold letB; first | rfl | (simp_all; done) | (simp_all; omega), rfl⟩
  · intro hg1; clear hl; intro hl
    try simp only [decide_eq_true_eq, decide_eq_false_iff_not, Bool.not_eq_true', Bool.not_eq_false', Bool.not_eq_true, Bool.not_eq_false, Bool.and_eq_true, Bool.or_eq_true, Bool.and_eq_false_iff, Bool.or_eq_false_iff, Bool.not_not, ne_eq, Int.not_lt, Int.not_le, Decidable.not_not, beq_iff_eq, bne_iff_ne] at hg1
    refine wl (wl_skip hl rfl ⟨_, _, rfl, rfl, rfl⟩ ?_)
    clear hl a; intro a hl
    refine wl (wl_skip hl rfl ⟨_, _, rfl, rfl, rfl⟩ ?_)
    clear hl a; intro a hl
    refine wl (wl_val hl rfl trivial (r_pickF hl rfl rfl) ?_)
    clear hl a; intro a hl
    refine wl (wl_val hl rfl trivial (r_assign hl rfl) ?_)
    clear hl a; intro a hl
    refine w_nil ?_
    have hl2 := hl.add (t := 2) (hl.nil) rfl; clear hl; have hl := hl2; clear hl2
    refine then_normal ?_
    refine wp_ret ?_
    refine f_ret1 (F' := []) hl hh rfl rfl (by repeat (first | exact keeps_nil | apply keeps_cons (by repeat (first | exact find_head | apply find_tail)) (by first  | rfl) | exact keeps_self | apply keeps_mv)) ?_
    exact ⟨by unfold letB; first | rfl | (simp_all; done) | (simp_all; omega), rfl⟩

set_option maxHeartbeats 1000000 in
theorem digitM (x : Int) : Sp Tryz.prog 62 #[.int .u8 x] [] (fun v F' => v = .bool (digB x) ∧ F' = []) := by
  refine f_enter (args := [.int .u8 x]) Tryz.func62 rfl Tryz.ntmps62 rfl ?_
  intro w0 w a hpre hl hh
  simp only [slotsFrom, Nat.reduceAdd] at hl
  refine c_seq ?_
  refine c_region ?_
  refine wl (wl_val hl rfl trivial (r_assign hl rfl) ?_)
  clear hl a; intro a hl
  refine w_nil ?_
  have hl2 := hl.add (t := 0) (hl.nil) rfl; clear hl; have hl := hl2; clear hl2
  refine then_normal ?_
  refine c_seq ?_
  refine c_region ?_
  refine wl (wl_val hl rfl trivial (r_move hl rfl) ?_)
  clear hl a; intro a hl
  refine wl (wl_val hl rfl trivial (r_geq hl rfl rfl) ?_)
  clear hl a; intro a hl
  refine wl (wl_val hl rfl trivial (r_move hl rfl) ?_)
  clear hl a; intro a hl
  refine sl_split (t := 5) hl rfl ?_ ?_
  · intro hg1; clear hl; intro hl
    try simp only [decide_eq_true_eq, decide_eq_false_iff_not, Bool.not_eq_true', Bool.not_eq_false', Bool.not_eq_true, Bool.not_eq_false, Bool.and_eq_true, Bool.or_eq_true, Bool.and_eq_false_iff, Bool.or_eq_false_iff, Bool.not_not, ne_eq, Int.not_lt, Int.not_le, Decidable.not_not, beq_iff_eq, bne_iff_ne] at hg1
    refine wl (wl_val hl rfl ⟨_, _, rfl, rfl, rfl⟩ (r_move hl rfl) ?_)
    clear hl a; intro a hl
    refine wl (wl_val hl rfl ⟨_, _, rfl, rfl, rfl⟩ (r_leq hl rfl rfl) ?_)
    clear hl a; intro a hl
    refine wl (wl_val hl rfl trivial (r_pickT hl rfl rfl) ?_)
    clear hl a; intro a hl
    refine wl (wl_val hl rfl trivial (r_assign hl rfl) ?_)
    clear hl a; intro a hl
    refine w_nil ?_
    have hl2 := hl.add (t := 2) (hl.nil) rfl; clear hl; have hl := hl2; clear hl2
    refine then_normal ?_
    refine wp_ret ?_
    refine f_ret1 (F' := []) hl hh rfl rfl (by repeat (first | exact keeps_nil | apply keeps_cons (by repeat (first | exact find_head | apply find_tail)) (by first  | rfl) | exact keeps_self | apply keeps_mv)) ?_
    exact ⟨by unfold digB; first | rfl | (simp_all; done) | (simp_all; omega), rfl⟩
  · intro hg1; clear hl; intro hl
    try simp only [decide_eq_true_eq, decide_eq_false_iff_not, Bool.not_eq_true', Bool.not_eq_false', Bool.not_eq_true, Bool.not_eq_false, Bool.and_eq_true, Bool.or_eq_true, Bool.and_eq_false_iff, Bool.or_eq_false_iff, Bool.not_not, ne_eq, Int.not_lt, Int.not_le, Decidable.not_not, beq_iff_eq, bne_iff_ne] at hg1
    refine wl (wl_skip hl rfl ⟨_, _, rfl, rfl, rfl⟩ ?_)
    clear hl a; intro a hl
    refine wl (wl_skip hl rfl ⟨_, _, rfl, rfl, rfl⟩ ?_)
    clear hl a; intro a hl
    refine wl (wl_val hl rfl trivial (r_pickF hl rfl rfl) ?_)
    clear hl a; intro a hl
    refine wl (wl_val hl rfl trivial (r_assign hl rfl) ?_)
    clear hl a; intro a hl
    refine w_nil ?_
    have hl2 := hl.add (t := 2) (hl.nil) rfl; clear hl; have hl := hl2; clear hl2
    refine then_normal ?_
    refine wp_ret ?_
    refine f_ret1 (F' := []) hl hh rfl rfl (by repeat (first | exact keeps_nil | apply keeps_cons (by repeat (first | exact find_head | apply find_tail)) (by first  | rfl) | exact keeps_self | apply keeps_mv)) ?_
    exact ⟨by unfold digB; first | rfl | (simp_all; done) | (simp_all; omega), rfl⟩

set_option maxHeartbeats 1000000 in
theorem numberM (u : ByteArray) (mx : Int) (hm : 0 ≤ mx ∧ mx ≤ 4294967295) (hw : u.size ≤ 9223372036854775807) : Sp Tryz.prog 54 #[.string u, .int .u64 mx] [] (fun v F' => v = .tuple #[.int .u64 ((nmW u mx).getD 0), .bool (nmW u mx).isSome] ∧ F' = []) := by
  refine f_enter (args := [.string u, .int .u64 mx]) Tryz.func54 rfl Tryz.ntmps54 rfl ?_
  intro w0 w a hpre hl hh
  simp only [slotsFrom, Nat.reduceAdd] at hl
  refine c_seq ?_
  refine c_region ?_
  refine wl (wl_val hl rfl trivial (r_assign hl rfl) ?_)
  clear hl a; intro a hl
  refine wl (wl_val hl rfl trivial (r_assign hl rfl) ?_)
  clear hl a; intro a hl
  refine w_nil ?_
  have hl2 := hl.add (t := 0) (hl.add (t := 1) (hl.nil) rfl) rfl; clear hl; have hl := hl2; clear hl2
  refine then_normal ?_
  refine c_seq ?_
  refine c_seq ?_
  refine c_region ?_
  refine wl (wl_val hl rfl trivial (r_move hl rfl) ?_)
  clear hl a; intro a hl
  refine wl (wl_val hl rfl trivial (r_eql_string hl rfl rfl) ?_)
  clear hl a; intro a hl
  refine w_nil ?_
  have hl2 := hl.add (t := 0) (hl.add (t := 1) (hl.add (t := 9) (hl.nil) rfl) rfl) rfl; clear hl; have hl := hl2; clear hl2
  refine then_normal ?_
  refine c_cond hl rfl ?_ ?_
  · intro hc0
    try simp only [decide_eq_true_eq, decide_eq_false_iff_not, Bool.not_eq_true', Bool.not_eq_false', Bool.not_eq_true, Bool.not_eq_false, Bool.and_eq_true, Bool.or_eq_true, Bool.and_eq_false_iff, Bool.or_eq_false_iff, Bool.not_not, ne_eq, Int.not_lt, Int.not_le, Decidable.not_not, beq_iff_eq, bne_iff_ne] at hc0
    have hnn : nmW u mx = none := by (unfold nmW; rw [if_pos (size0_list hc0)])
    refine c_seq ?_
    refine c_region ?_
    refine wl (wl_val hl rfl trivial (r_assign hl rfl) ?_)
    clear hl a; intro a hl
    refine wl (wl_val hl rfl trivial (r_assign hl rfl) ?_)
    clear hl a; intro a hl
    refine w_nil ?_
    have hl2 := hl.add (t := 4) (hl.add (t := 5) (hl.nil) rfl) rfl; clear hl; have hl := hl2; clear hl2
    refine then_normal ?_
    refine wp_ret ?_
    refine then_ret ?_
    refine f_ret2 (F' := []) hl hh rfl rfl rfl (by repeat (first | exact keeps_nil | apply keeps_cons (by repeat (first | exact find_head | apply find_tail)) (by first  | rfl) | exact keeps_self | apply keeps_mv)) ?_
    exact ⟨by rw [hnn]; rfl, rfl⟩
  · intro hc0
    try simp only [decide_eq_true_eq, decide_eq_false_iff_not, Bool.not_eq_true', Bool.not_eq_false', Bool.not_eq_true, Bool.not_eq_false, Bool.and_eq_true, Bool.or_eq_true, Bool.and_eq_false_iff, Bool.or_eq_false_iff, Bool.not_not, ne_eq, Int.not_lt, Int.not_le, Decidable.not_not, beq_iff_eq, bne_iff_ne] at hc0
    have hne : ¬ u.size = 0 := size_ne hc0
    refine wp_skip ?_
    refine then_normal ?_
    refine c_seq ?_
    refine c_region ?_
    refine wl (wl_val hl rfl trivial (r_assign hl rfl) ?_)
    clear hl a; intro a hl
    refine w_nil ?_
    have hl2 := hl.add (t := 0) (hl.add (t := 1) (hl.add (t := 6) (hl.nil) rfl) rfl) rfl; clear hl; have hl := hl2; clear hl2
    refine then_normal ?_
    refine c_seq ?_
    refine c_seq ?_
    refine c_region ?_
    refine wl (wl_val hl rfl trivial (r_assign hl rfl) ?_)
    clear hl a; intro a hl
    refine w_nil ?_
    have hl2 := hl.add (t := 0) (hl.add (t := 1) (hl.add (t := 6) (hl.add (t := 7) (hl.nil) rfl) rfl) rfl) rfl; clear hl; have hl := hl2; clear hl2
    refine then_normal ?_
    refine wp_block ?_
    obtain ⟨KS0, hKS0, hk⟩ := (hl.add (t := 0) (hl.add (t := 1) (hl.nil) rfl) rfl).name
    obtain ⟨HS0, hHS0, hh2⟩ := hh.name (keeps_nil)
    refine c_loop (α := Nat × Int) (fun s => u.size - s.1) (fun s a w => ((s.1 ≤ u.size ∧ 0 ≤ s.2 ∧ s.2 ≤ mx) ∧ nmW u mx = nmF mx s.2 ((bys u).drop s.1)) ∧ Sl 33 ([(7, .int .i64 (s.1 : Int)), (6, .int .u64 s.2)] ++ KS0) a ∧ Has _ w0 ([] ++ HS0) w) (0, 0) ⟨⟨⟨Nat.zero_le _, Int.le_refl _, hm.1⟩, by unfold nmW; rw [if_neg hne]; rfl⟩, hl.addE (t := 7) (hl.addE (t := 6) (hk) rfl (by first | rfl)) rfl (by first | rfl), hh2⟩ ?_
    clear hk hh2 hl hh a w
    intro s a w hI
    obtain ⟨⟨⟨h1, h2, h3⟩, h4⟩, hl, hh⟩ := hI
    subst hKS0; subst hHS0
    simp only [List.cons_append, List.nil_append, List.append_nil] at hl hh
    have hby := byteAt_range u s.1
    refine c_seq ?_
    refine c_seq ?_
    refine c_region ?_
    refine wl (wl_val hl rfl trivial (r_move hl rfl) ?_)
    clear hl a; intro a hl
    refine wl (wl_val hl rfl trivial (r_move hl rfl) ?_)
    clear hl a; intro a hl
    refine wl (wl_val hl rfl trivial (r_lenStr hl rfl Tryz.underlying9) ?_)
    clear hl a; intro a hl
    refine wl (wl_val hl rfl trivial (r_lss hl rfl rfl) ?_)
    clear hl a; intro a hl
    refine w_nil ?_
    have hl2 := hl.add (t := 0) (hl.add (t := 1) (hl.add (t := 6) (hl.add (t := 7) (hl.add (t := 13) (hl.nil) rfl) rfl) rfl) rfl) rfl; clear hl; have hl := hl2; clear hl2
    refine then_normal ?_
    refine c_cond hl rfl ?_ ?_
    · intro hc1
      try simp only [decide_eq_true_eq, decide_eq_false_iff_not, Bool.not_eq_true', Bool.not_eq_false', Bool.not_eq_true, Bool.not_eq_false, Bool.and_eq_true, Bool.or_eq_true, Bool.and_eq_false_iff, Bool.or_eq_false_iff, Bool.not_not, ne_eq, Int.not_lt, Int.not_le, Decidable.not_not, beq_iff_eq, bne_iff_ne] at hc1
      have h5 := nmF_take (mx := mx) (ds := bys u) (v := s.2) (i := s.1) (by rw [bys_len]; omega)
      rw [bys_at (by omega)] at h5
      refine wp_skip ?_
      refine then_normal ?_
      refine c_seq ?_
      refine wp_block ?_
      refine c_seq ?_
      refine c_seq ?_
      refine c_region ?_
      refine wl (wl_val hl rfl trivial (r_move hl rfl) ?_)
      clear hl a; intro a hl
      refine wl (wl_val hl rfl trivial (r_move hl rfl) ?_)
      clear hl a; intro a hl
      refine wl (wl_val hl rfl trivial (r_indexStr hl rfl rfl Tryz.underlying9 (by omega) (by omega) (by first | (simp only [Int.reduceToNat]; rfl) | exact toNat_add1 _ | exact toNat_add2 _ _ | exact toNat_emod _ _ | exact Int.toNat_natCast _ | rfl)) ?_)
      clear hl a; intro a hl
      refine wl (w_call hl hh rfl trivial rfl cal62 rfl (digitM _) (by repeat (first | exact keeps_nil | apply keeps_cons (by repeat (first | exact find_head | apply find_tail)) (by first  | rfl) | exact keeps_self | apply keeps_mv)) trivial ?_)
      clear hl hh a w; intro vc Fc a w hR hl hh
      obtain ⟨rfl, rfl⟩ := hR
      try simp only [List.cons_append, List.nil_append] at hh
      refine wl (wl_val hl rfl trivial (r_not hl rfl) ?_)
      clear hl a; intro a hl
      refine w_nil ?_
      have hl2 := hl.add (t := 0) (hl.add (t := 1) (hl.add (t := 6) (hl.add (t := 7) (hl.add (t := 20) (hl.nil) rfl) rfl) rfl) rfl) rfl; clear hl; have hl := hl2; clear hl2
      refine then_normal ?_
      refine c_cond hl rfl ?_ ?_
      · intro hc2
        try simp only [decide_eq_true_eq, decide_eq_false_iff_not, Bool.not_eq_true', Bool.not_eq_false', Bool.not_eq_true, Bool.not_eq_false, Bool.and_eq_true, Bool.or_eq_true, Bool.and_eq_false_iff, Bool.or_eq_false_iff, Bool.not_not, ne_eq, Int.not_lt, Int.not_le, Decidable.not_not, beq_iff_eq, bne_iff_ne] at hc2
        have hnn : nmW u mx = none := by (rw [h4, h5, if_neg (by rw [hc2]; simp)])
        refine c_seq ?_
        refine c_region ?_
        refine wl (wl_val hl rfl trivial (r_assign hl rfl) ?_)
        clear hl a; intro a hl
        refine wl (wl_val hl rfl trivial (r_assign hl rfl) ?_)
        clear hl a; intro a hl
        refine w_nil ?_
        have hl2 := hl.add (t := 4) (hl.add (t := 5) (hl.nil) rfl) rfl; clear hl; have hl := hl2; clear hl2
        refine then_normal ?_
        refine wp_ret ?_
        refine then_ret ?_
        refine blk_ret ?_
        refine then_ret ?_
        refine then_ret ?_
        refine blk_ret ?_
        refine then_ret ?_
        refine f_ret2 (F' := []) hl hh rfl rfl rfl (by repeat (first | exact keeps_nil | apply keeps_cons (by repeat (first | exact find_head | apply find_tail)) (by first  | rfl) | exact keeps_self | apply keeps_mv)) ?_
        exact ⟨by rw [hnn]; rfl, rfl⟩
      · intro hc2
        try simp only [decide_eq_true_eq, decide_eq_false_iff_not, Bool.not_eq_true', Bool.not_eq_false', Bool.not_eq_true, Bool.not_eq_false, Bool.and_eq_true, Bool.or_eq_true, Bool.and_eq_false_iff, Bool.or_eq_false_iff, Bool.not_not, ne_eq, Int.not_lt, Int.not_le, Decidable.not_not, beq_iff_eq, bne_iff_ne] at hc2
        have hdg := digB_iff.1 hc2
        rw [if_pos hc2] at h5
        refine wp_skip ?_
        refine then_normal ?_
        refine c_seq ?_
        refine c_region ?_
        refine wl (wl_val hl rfl trivial (r_move hl rfl) ?_)
        clear hl a; intro a hl
        first | refine wl (wl_val hl rfl trivial (r_mul hl rfl rfl (by simp only [Fits]; omega)) ?_) | refine wl (wl_val hl rfl trivial (r_mulW hl rfl rfl) ?_)
        clear hl a; intro a hl
        refine wl (wl_val hl rfl trivial (r_move hl rfl) ?_)
        clear hl a; intro a hl
        refine wl (wl_val hl rfl trivial (r_move hl rfl) ?_)
        clear hl a; intro a hl
        refine wl (wl_val hl rfl trivial (r_indexStr hl rfl rfl Tryz.underlying9 (by omega) (by omega) (by first | (simp only [Int.reduceToNat]; rfl) | exact toNat_add1 _ | exact toNat_add2 _ _ | exact toNat_emod _ _ | exact Int.toNat_natCast _ | rfl)) ?_)
        clear hl a; intro a hl
        first | refine wl (wl_val hl rfl trivial (r_sub hl rfl rfl (by simp only [Fits]; omega)) ?_) | refine wl (wl_val hl rfl trivial (r_subW hl rfl rfl) ?_)
        clear hl a; intro a hl
        first | refine wl (wl_val hl rfl trivial (r_conv hl rfl Tryz.underlying5 Tryz.underlying157 (by simp only [Fits]; omega)) ?_) | refine wl (wl_val hl rfl trivial (r_convW hl rfl Tryz.underlying5 Tryz.underlying157) ?_)
        clear hl a; intro a hl
        first | refine wl (wl_val hl rfl trivial (r_add hl rfl rfl (by simp only [Fits]; omega)) ?_) | refine wl (wl_val hl rfl trivial (r_addW hl rfl rfl) ?_)
        clear hl a; intro a hl
        refine wl (wl_val hl rfl trivial (r_assign hl rfl) ?_)
        clear hl a; intro a hl
        refine w_nil ?_
        have hl2 := hl.add (t := 0) (hl.add (t := 1) (hl.add (t := 6) (hl.add (t := 7) (hl.nil) rfl) rfl) rfl) rfl; clear hl; have hl := hl2; clear hl2
        refine then_normal ?_
        refine c_seq ?_
        refine c_region ?_
        refine wl (wl_val hl rfl trivial (r_move hl rfl) ?_)
        clear hl a; intro a hl
        refine wl (wl_val hl rfl trivial (r_move hl rfl) ?_)
        clear hl a; intro a hl
        refine wl (wl_val hl rfl trivial (r_gtr hl rfl rfl) ?_)
        clear hl a; intro a hl
        refine w_nil ?_
        have hl2 := hl.add (t := 0) (hl.add (t := 1) (hl.add (t := 6) (hl.add (t := 7) (hl.add (t := 31) (hl.nil) rfl) rfl) rfl) rfl) rfl; clear hl; have hl := hl2; clear hl2
        refine then_normal ?_
        refine c_cond hl rfl ?_ ?_
        · intro hc3
          try simp only [decide_eq_true_eq, decide_eq_false_iff_not, Bool.not_eq_true', Bool.not_eq_false', Bool.not_eq_true, Bool.not_eq_false, Bool.and_eq_true, Bool.or_eq_true, Bool.and_eq_false_iff, Bool.or_eq_false_iff, Bool.not_not, ne_eq, Int.not_lt, Int.not_le, Decidable.not_not, beq_iff_eq, bne_iff_ne] at hc3
          have hnn : nmW u mx = none := by (rw [h4, h5, if_pos (by omega)])
          refine c_seq ?_
          refine c_region ?_
          refine wl (wl_val hl rfl trivial (r_assign hl rfl) ?_)
          clear hl a; intro a hl
          refine wl (wl_val hl rfl trivial (r_assign hl rfl) ?_)
          clear hl a; intro a hl
          refine w_nil ?_
          have hl2 := hl.add (t := 4) (hl.add (t := 5) (hl.nil) rfl) rfl; clear hl; have hl := hl2; clear hl2
          refine then_normal ?_
          refine wp_ret ?_
          refine blk_ret ?_
          refine then_ret ?_
          refine then_ret ?_
          refine blk_ret ?_
          refine then_ret ?_
          refine f_ret2 (F' := []) hl hh rfl rfl rfl (by repeat (first | exact keeps_nil | apply keeps_cons (by repeat (first | exact find_head | apply find_tail)) (by first  | rfl) | exact keeps_self | apply keeps_mv)) ?_
          exact ⟨by rw [hnn]; rfl, rfl⟩
        · intro hc3
          try simp only [decide_eq_true_eq, decide_eq_false_iff_not, Bool.not_eq_true', Bool.not_eq_false', Bool.not_eq_true, Bool.not_eq_false, Bool.and_eq_true, Bool.or_eq_true, Bool.and_eq_false_iff, Bool.or_eq_false_iff, Bool.not_not, ne_eq, Int.not_lt, Int.not_le, Decidable.not_not, beq_iff_eq, bne_iff_ne] at hc3
          have h6 : nmW u mx = nmF mx (s.2 * 10 + (byteAt u s.1 - 48)) ((bys u).drop (s.1 + 1)) := by (rw [h4, h5, if_neg (by omega)])
          refine wp_skip ?_
          refine blk_normal ?_
          refine then_normal ?_
          refine c_region ?_
          refine wl (wl_val hl rfl trivial (r_move hl rfl) ?_)
          clear hl a; intro a hl
          first | refine wl (wl_val hl rfl trivial (r_add hl rfl rfl (by simp only [Fits]; omega)) ?_) | refine wl (wl_val hl rfl trivial (r_addW hl rfl rfl) ?_)
          clear hl a; intro a hl
          refine wl (wl_val hl rfl trivial (r_assign hl rfl) ?_)
          clear hl a; intro a hl
          refine w_nil ?_
          have hl2 := hl.add (t := 0) (hl.add (t := 1) (hl.add (t := 6) (hl.add (t := 7) (hl.nil) rfl) rfl) rfl) rfl; clear hl; have hl := hl2; clear hl2
          refine then_normal ?_
          refine ⟨(s.1 + 1, s.2 * 10 + (byteAt u s.1 - 48)), (by simp only; omega), ⟨⟨by simp only; omega, by simp only; omega, by simp only; omega⟩, h6⟩, hl.addE (t := 7) (hl.addE (t := 6) (hl.addE (t := 0) (hl.addE (t := 1) (hl.nil) rfl (by first | rfl | rfl)) rfl (by first | rfl | rfl)) rfl (by first | rfl | rfl)) rfl (by first | rfl | rfl), hh.keep (by repeat (first | exact keeps_nil | apply keeps_cons (by repeat (first | exact find_head | apply find_tail)) (by first  | rfl) | exact keeps_self | apply keeps_mv))⟩
    · intro hc1
      try simp only [decide_eq_true_eq, decide_eq_false_iff_not, Bool.not_eq_true', Bool.not_eq_false', Bool.not_eq_true, Bool.not_eq_false, Bool.and_eq_true, Bool.or_eq_true, Bool.and_eq_false_iff, Bool.or_eq_false_iff, Bool.not_not, ne_eq, Int.not_lt, Int.not_le, Decidable.not_not, beq_iff_eq, bne_iff_ne] at hc1
      have hnn : nmW u mx = some s.2 := by (rw [h4, dr_end (by rw [bys_len]; omega)]; rfl)
      refine wp_exit ?_
      refine then_exit ?_
      refine then_exit ?_
      refine blk_exit ?_
      refine then_normal ?_
      refine c_seq ?_
      refine c_region ?_
      refine wl (wl_val hl rfl trivial (r_move hl rfl) ?_)
      clear hl a; intro a hl
      refine wl (wl_val hl rfl trivial (r_assign hl rfl) ?_)
      clear hl a; intro a hl
      refine wl (wl_val hl rfl trivial (r_assign hl rfl) ?_)
      clear hl a; intro a hl
      refine w_nil ?_
      have hl2 := hl.add (t := 4) (hl.add (t := 5) (hl.nil) rfl) rfl; clear hl; have hl := hl2; clear hl2
      refine then_normal ?_
      refine wp_ret ?_
      refine f_ret2 (F' := []) hl hh rfl rfl rfl (by repeat (first | exact keeps_nil | apply keeps_cons (by repeat (first | exact find_head | apply find_tail)) (by first  | rfl) | exact keeps_self | apply keeps_mv)) ?_
      exact ⟨by rw [hnn]; rfl, rfl⟩

set_option maxHeartbeats 1000000 in
theorem deviceM (u : ByteArray) (hu : u.size ≤ 9223372036854775807) : Sp Tryz.prog 63 #[.string u] [] (fun v F' => v = .tuple #[.int .u8 ((dvM u).getD 0), .bool (dvM u).isSome] ∧ F' = []) := by
  refine f_enter (args := [.string u]) Tryz.func63 rfl Tryz.ntmps63 rfl ?_
  intro w0 w a hpre hl hh
  simp only [slotsFrom, Nat.reduceAdd] at hl
  refine c_seq ?_
  refine c_region ?_
  refine wl (wl_val hl rfl trivial (r_assign hl rfl) ?_)
  clear hl a; intro a hl
  refine wl (wl_val hl rfl trivial (r_assign hl rfl) ?_)
  clear hl a; intro a hl
  refine w_nil ?_
  have hl2 := hl.add (t := 0) (hl.nil) rfl; clear hl; have hl := hl2; clear hl2
  refine then_normal ?_
  refine c_seq ?_
  refine c_seq ?_
  refine c_region ?_
  refine wl (wl_val hl rfl trivial (r_move hl rfl) ?_)
  clear hl a; intro a hl
  refine wl (wl_val hl rfl trivial (r_eql_string hl rfl rfl) ?_)
  clear hl a; intro a hl
  rw [str0] at hl
  refine wl (wl_val hl rfl trivial (r_move hl rfl) ?_)
  clear hl a; intro a hl
  refine sl_split (t := 8) hl rfl ?_ ?_
  · intro hg1; clear hl; intro hl
    try simp only [decide_eq_true_eq, decide_eq_false_iff_not, Bool.not_eq_true', Bool.not_eq_false', Bool.not_eq_true, Bool.not_eq_false, Bool.and_eq_true, Bool.or_eq_true, Bool.and_eq_false_iff, Bool.or_eq_false_iff, Bool.not_not, ne_eq, Int.not_lt, Int.not_le, Decidable.not_not, beq_iff_eq, bne_iff_ne] at hg1
    refine wl (wl_skip hl rfl ⟨_, _, rfl, rfl, rfl⟩ ?_)
    clear hl a; intro a hl
    refine wl (wl_skip hl rfl ⟨_, _, rfl, rfl, rfl⟩ ?_)
    clear hl a; intro a hl
    refine wl (wl_skip hl rfl ⟨_, _, rfl, rfl, rfl⟩ ?_)
    clear hl a; intro a hl
    refine wl (wl_val hl rfl trivial (r_pickT hl rfl rfl) ?_)
    clear hl a; intro a hl
    refine w_nil ?_
    have hl2 := hl.add (t := 0) (hl.add (t := 12) (hl.nil) rfl) rfl; clear hl; have hl := hl2; clear hl2
    refine then_normal ?_
    refine c_condT hl rfl ?_
    have hdn := dvM_n (u := u) (by omega)
    refine c_seq ?_
    refine c_region ?_
    refine wl (wl_val hl rfl trivial (r_assign hl rfl) ?_)
    clear hl a; intro a hl
    refine wl (wl_val hl rfl trivial (r_assign hl rfl) ?_)
    clear hl a; intro a hl
    refine w_nil ?_
    have hl2 := hl.add (t := 2) (hl.add (t := 3) (hl.nil) rfl) rfl; clear hl; have hl := hl2; clear hl2
    refine then_normal ?_
    refine wp_ret ?_
    refine then_ret ?_
    refine f_ret2 (F' := []) hl hh rfl rfl rfl (by repeat (first | exact keeps_nil | apply keeps_cons (by repeat (first | exact find_head | apply find_tail)) (by first  | rfl) | exact keeps_self | apply keeps_mv)) ?_
    exact ⟨by rw [hdn]; rfl, rfl⟩
  · intro hg1; clear hl; intro hl
    try simp only [decide_eq_true_eq, decide_eq_false_iff_not, Bool.not_eq_true', Bool.not_eq_false', Bool.not_eq_true, Bool.not_eq_false, Bool.and_eq_true, Bool.or_eq_true, Bool.and_eq_false_iff, Bool.or_eq_false_iff, Bool.not_not, ne_eq, Int.not_lt, Int.not_le, Decidable.not_not, beq_iff_eq, bne_iff_ne] at hg1
    refine wl (wl_val hl rfl ⟨_, _, rfl, rfl, rfl⟩ (r_move hl rfl) ?_)
    clear hl a; intro a hl
    refine wl (wl_val hl rfl ⟨_, _, rfl, rfl, rfl⟩ (r_indexStr hl rfl rfl Tryz.underlying9 (by omega) (by omega) (by first | (simp only [Int.reduceToNat]; rfl) | exact toNat_add1 _ | exact toNat_add2 _ _ | exact toNat_emod _ _ | exact Int.toNat_natCast _ | rfl)) ?_)
    clear hl a; intro a hl
    refine wl (wl_val hl rfl ⟨_, _, rfl, rfl, rfl⟩ (r_neq hl rfl rfl) ?_)
    clear hl a; intro a hl
    refine wl (wl_val hl rfl trivial (r_pickF hl rfl rfl) ?_)
    clear hl a; intro a hl
    refine w_nil ?_
    have hl2 := hl.add (t := 0) (hl.add (t := 12) (hl.nil) rfl) rfl; clear hl; have hl := hl2; clear hl2
    refine then_normal ?_
    refine c_cond hl rfl ?_ ?_
    · intro hc0
      try simp only [decide_eq_true_eq, decide_eq_false_iff_not, Bool.not_eq_true', Bool.not_eq_false', Bool.not_eq_true, Bool.not_eq_false, Bool.and_eq_true, Bool.or_eq_true, Bool.and_eq_false_iff, Bool.or_eq_false_iff, Bool.not_not, ne_eq, Int.not_lt, Int.not_le, Decidable.not_not, beq_iff_eq, bne_iff_ne] at hc0
      have hdn := dvM_n (u := u) (by omega)
      refine c_seq ?_
      refine c_region ?_
      refine wl (wl_val hl rfl trivial (r_assign hl rfl) ?_)
      clear hl a; intro a hl
      refine wl (wl_val hl rfl trivial (r_assign hl rfl) ?_)
      clear hl a; intro a hl
      refine w_nil ?_
      have hl2 := hl.add (t := 2) (hl.add (t := 3) (hl.nil) rfl) rfl; clear hl; have hl := hl2; clear hl2
      refine then_normal ?_
      refine wp_ret ?_
      refine then_ret ?_
      refine f_ret2 (F' := []) hl hh rfl rfl rfl (by repeat (first | exact keeps_nil | apply keeps_cons (by repeat (first | exact find_head | apply find_tail)) (by first  | rfl) | exact keeps_self | apply keeps_mv)) ?_
      exact ⟨by rw [hdn]; rfl, rfl⟩
    · intro hc0
      try simp only [decide_eq_true_eq, decide_eq_false_iff_not, Bool.not_eq_true', Bool.not_eq_false', Bool.not_eq_true, Bool.not_eq_false, Bool.and_eq_true, Bool.or_eq_true, Bool.and_eq_false_iff, Bool.or_eq_false_iff, Bool.not_not, ne_eq, Int.not_lt, Int.not_le, Decidable.not_not, beq_iff_eq, bne_iff_ne] at hc0
      have hd0 : ¬ (u.size = 0 ∨ byteAt u 0 ≠ 114) := by omega
      refine wp_skip ?_
      refine then_normal ?_
      refine c_seq ?_
      refine c_region ?_
      refine wl (wl_val hl rfl trivial (r_move hl rfl) ?_)
      clear hl a; intro a hl
      refine wl (wl_val hl rfl trivial (r_sliceStr10 hl rfl rfl Tryz.underlying9 (by omega) (by omega) (by first | (simp only [Int.reduceToNat]; rfl) | exact toNat_add1 _ | exact toNat_add2 _ _ | exact toNat_emod _ _ | exact Int.toNat_natCast _ | rfl)) ?_)
      clear hl a; intro a hl
      refine wl (w_call hl hh rfl trivial rfl cal54 rfl (numberM (u.extract 1 u.size) 15 (by omega) (by rw [ByteArray.size_extract]; omega)) (by repeat (first | exact keeps_nil | apply keeps_cons (by repeat (first | exact find_head | apply find_tail)) (by first  | rfl) | exact keeps_self | apply keeps_mv)) trivial ?_)
      clear hl hh a w; intro vc Fc a w hR hl hh
      obtain ⟨rfl, rfl⟩ := hR
      try simp only [List.cons_append, List.nil_append] at hh
      have hg := nmW_g (w := u.extract 1 u.size) (mx := 15) (by decide)
      rw [← dvM_s hd0] at hl hg
      refine wl (wl_val hl rfl trivial (r_move hl rfl) ?_)
      clear hl a; intro a hl
      refine wl (wl_val hl rfl trivial (r_extract hl rfl (by simp only [List.getElem?_toArray, List.getElem?_cons_zero, List.getElem?_cons_succ]; rfl)) ?_)
      clear hl a; intro a hl
      refine wl (wl_val hl rfl trivial (r_extract hl rfl (by simp only [List.getElem?_toArray, List.getElem?_cons_zero, List.getElem?_cons_succ]; rfl)) ?_)
      clear hl a; intro a hl
      refine wl (wl_val hl rfl trivial (r_assign hl rfl) ?_)
      clear hl a; intro a hl
      refine wl (wl_val hl rfl trivial (r_assign hl rfl) ?_)
      clear hl a; intro a hl
      refine w_nil ?_
      have hl2 := hl.add (t := 4) (hl.add (t := 5) (hl.nil) rfl) rfl; clear hl; have hl := hl2; clear hl2
      refine then_normal ?_
      refine c_seq ?_
      refine c_region ?_
      refine wl (wl_val hl rfl trivial (r_move hl rfl) ?_)
      clear hl a; intro a hl
      first | refine wl (wl_val hl rfl trivial (r_conv hl rfl Tryz.underlying157 Tryz.underlying5 (by simp only [Fits]; omega)) ?_) | refine wl (wl_val hl rfl trivial (r_convW hl rfl Tryz.underlying157 Tryz.underlying5) ?_)
      clear hl a; intro a hl
      refine wl (wl_val hl rfl trivial (r_move hl rfl) ?_)
      clear hl a; intro a hl
      refine wl (wl_val hl rfl trivial (r_assign hl rfl) ?_)
      clear hl a; intro a hl
      refine wl (wl_val hl rfl trivial (r_assign hl rfl) ?_)
      clear hl a; intro a hl
      refine w_nil ?_
      have hl2 := hl.add (t := 2) (hl.add (t := 3) (hl.nil) rfl) rfl; clear hl; have hl := hl2; clear hl2
      refine then_normal ?_
      refine wp_ret ?_
      refine f_ret2 (F' := []) hl hh rfl rfl rfl (by repeat (first | exact keeps_nil | apply keeps_cons (by repeat (first | exact find_head | apply find_tail)) (by first  | rfl) | exact keeps_self | apply keeps_mv)) ?_
      exact ⟨rfl, rfl⟩

set_option maxHeartbeats 1000000 in
theorem prefixM (x y z9 : ByteArray) (hx : x.size ≤ 9223372036854775807) (hz9 : z9.size ≤ 9223372036854775807) : Sp Tryz.prog 64 #[.string x, .string y, .string z9] [] (fun v F' => v = .tuple #[.agg ⟨[.int .u8 ((nmW x 255).getD 0), .int .u8 ((nmW z9 8).getD 0)]⟩, .bool (pfM x y z9)] ∧ F' = []) := by
  refine f_enter (args := [.string x, .string y, .string z9]) Tryz.func64 rfl Tryz.ntmps64 rfl ?_
  intro w0 w a hpre hl hh
  simp only [slotsFrom, Nat.reduceAdd] at hl
  refine c_seq ?_
  refine c_region ?_
  refine wl (w_alloc hl hh rfl trivial zero41 rfl ?_)
  clear hl hh a w; intro k6 a w hl hh
  refine wl (wl_val hl rfl trivial (r_assign hl rfl) ?_)
  clear hl a; intro a hl
  refine w_nil ?_
  have hl2 := hl.add (t := 0) (hl.add (t := 1) (hl.add (t := 2) (hl.add (t := 6) (hl.nil) rfl) rfl) rfl) rfl; clear hl; have hl := hl2; clear hl2
  refine then_normal ?_
  refine c_seq ?_
  refine c_region ?_
  refine wl (wl_val hl rfl trivial (r_move hl rfl) ?_)
  clear hl a; intro a hl
  refine wl (w_call hl hh rfl trivial rfl cal54 rfl (numberM x 255 (by omega) hx) (by repeat (first | exact keeps_nil | apply keeps_cons (by repeat (first | exact find_head | apply find_tail)) (by first  | rfl) | exact keeps_self | apply keeps_mv)) trivial ?_)
  clear hl hh a w; intro vc Fc a w hR hl hh
  obtain ⟨rfl, rfl⟩ := hR
  try simp only [List.cons_append, List.nil_append] at hh
  have hg1 := nmW_g (w := x) (mx := 255) (by decide)
  refine wl (wl_val hl rfl trivial (r_move hl rfl) ?_)
  clear hl a; intro a hl
  refine wl (wl_val hl rfl trivial (r_extract hl rfl (by simp only [List.getElem?_toArray, List.getElem?_cons_zero, List.getElem?_cons_succ]; rfl)) ?_)
  clear hl a; intro a hl
  refine wl (wl_val hl rfl trivial (r_extract hl rfl (by simp only [List.getElem?_toArray, List.getElem?_cons_zero, List.getElem?_cons_succ]; rfl)) ?_)
  clear hl a; intro a hl
  refine wl (wl_val hl rfl trivial (r_assign hl rfl) ?_)
  clear hl a; intro a hl
  refine wl (wl_val hl rfl trivial (r_assign hl rfl) ?_)
  clear hl a; intro a hl
  refine w_nil ?_
  have hl2 := hl.add (t := 1) (hl.add (t := 2) (hl.add (t := 6) (hl.add (t := 8) (hl.add (t := 9) (hl.nil) rfl) rfl) rfl) rfl) rfl; clear hl; have hl := hl2; clear hl2
  refine then_normal ?_
  refine c_seq ?_
  refine c_region ?_
  refine wl (wl_val hl rfl trivial (r_move hl rfl) ?_)
  clear hl a; intro a hl
  refine wl (w_call hl hh rfl trivial rfl cal54 rfl (numberM z9 8 (by omega) hz9) (by repeat (first | exact keeps_nil | apply keeps_cons (by repeat (first | exact find_head | apply find_tail)) (by first  | rfl) | exact keeps_self | apply keeps_mv)) trivial ?_)
  clear hl hh a w; intro vc Fc a w hR hl hh
  obtain ⟨rfl, rfl⟩ := hR
  try simp only [List.cons_append, List.nil_append] at hh
  have hg2 := nmW_g (w := z9) (mx := 8) (by decide)
  refine wl (wl_val hl rfl trivial (r_move hl rfl) ?_)
  clear hl a; intro a hl
  refine wl (wl_val hl rfl trivial (r_extract hl rfl (by simp only [List.getElem?_toArray, List.getElem?_cons_zero, List.getElem?_cons_succ]; rfl)) ?_)
  clear hl a; intro a hl
  refine wl (wl_val hl rfl trivial (r_extract hl rfl (by simp only [List.getElem?_toArray, List.getElem?_cons_zero, List.getElem?_cons_succ]; rfl)) ?_)
  clear hl a; intro a hl
  refine wl (wl_val hl rfl trivial (r_assign hl rfl) ?_)
  clear hl a; intro a hl
  refine wl (wl_val hl rfl trivial (r_assign hl rfl) ?_)
  clear hl a; intro a hl
  refine w_nil ?_
  have hl2 := hl.add (t := 1) (hl.add (t := 6) (hl.add (t := 8) (hl.add (t := 9) (hl.add (t := 10) (hl.add (t := 11) (hl.nil) rfl) rfl) rfl) rfl) rfl) rfl; clear hl; have hl := hl2; clear hl2
  refine then_normal ?_
  refine c_seq ?_
  refine c_region ?_
  refine wl (wl_val hl rfl trivial (r_move hl rfl) ?_)
  clear hl a; intro a hl
  first | refine wl (wl_val hl rfl trivial (r_conv hl rfl Tryz.underlying157 Tryz.underlying5 (by simp only [Fits]; omega)) ?_) | refine wl (wl_val hl rfl trivial (r_convW hl rfl Tryz.underlying157 Tryz.underlying5) ?_)
  clear hl a; intro a hl
  refine wl (wl_val hl rfl trivial (r_move hl rfl) ?_)
  clear hl a; intro a hl
  first | refine wl (wl_val hl rfl trivial (r_conv hl rfl Tryz.underlying157 Tryz.underlying5 (by simp only [Fits]; omega)) ?_) | refine wl (wl_val hl rfl trivial (r_convW hl rfl Tryz.underlying157 Tryz.underlying5) ?_)
  clear hl a; intro a hl
  refine wl (wl_val hl rfl trivial (r_build hl rfl zero41 bld41 (by simp only [fillL, setL, List.getElem?_cons_zero, List.getElem?_cons_succ, Value.cells, List.take_zero, List.take_succ_cons, List.take_nil, List.drop_zero, List.drop_succ_cons, List.drop_nil, List.length_cons, List.length_nil, List.cons_append, List.nil_append, List.append_nil, Nat.zero_add, Nat.add_zero, Nat.reduceAdd, Nat.reduceBEq, Nat.reduceEqDiff, Nat.ble, BEq.rfl, Bool.and_true, Bool.and_self, cond_true, beq_self_eq_true]; rfl)) ?_)
  clear hl a; intro a hl
  refine wl (wl_val hl rfl trivial (r_move hl rfl) ?_)
  clear hl a; intro a hl
  refine wl (wl_val hl rfl trivial (r_move hl rfl) ?_)
  clear hl a; intro a hl
  refine sl_split (t := 28) hl rfl ?_ ?_
  · intro hg1; clear hl; intro hl
    try simp only [decide_eq_true_eq, decide_eq_false_iff_not, Bool.not_eq_true', Bool.not_eq_false', Bool.not_eq_true, Bool.not_eq_false, Bool.and_eq_true, Bool.or_eq_true, Bool.and_eq_false_iff, Bool.or_eq_false_iff, Bool.not_not, ne_eq, Int.not_lt, Int.not_le, Decidable.not_not, beq_iff_eq, bne_iff_ne] at hg1
    refine wl (wl_val hl rfl ⟨_, _, rfl, rfl, rfl⟩ (r_move hl rfl) ?_)
    clear hl a; intro a hl
    refine wl (wl_val hl rfl trivial (r_pickT hl rfl rfl) ?_)
    clear hl a; intro a hl
    refine wl (wl_val hl rfl trivial (r_move hl rfl) ?_)
    clear hl a; intro a hl
    refine sl_split (t := 31) hl rfl ?_ ?_
    · intro hg2; clear hl; intro hl
      try simp only [decide_eq_true_eq, decide_eq_false_iff_not, Bool.not_eq_true', Bool.not_eq_false', Bool.not_eq_true, Bool.not_eq_false, Bool.and_eq_true, Bool.or_eq_true, Bool.and_eq_false_iff, Bool.or_eq_false_iff, Bool.not_not, ne_eq, Int.not_lt, Int.not_le, Decidable.not_not, beq_iff_eq, bne_iff_ne] at hg2
      refine wl (wl_val hl rfl ⟨_, _, rfl, rfl, rfl⟩ (r_move hl rfl) ?_)
      clear hl a; intro a hl
      refine wl (wl_val hl rfl ⟨_, _, rfl, rfl, rfl⟩ (r_eql_string hl rfl rfl) ?_)
      clear hl a; intro a hl
      refine wl (wl_val hl rfl trivial (r_pickT hl rfl rfl) ?_)
      clear hl a; intro a hl
      refine wl (w_storeA hl hh trivial agg41 rfl rfl (by repeat (first | exact find_head | apply find_tail)) (by first | rfl | (simp; done)) (by first | (simp; done) | (simp; omega)) (by first | rfl | (simp; done)) (by first | (simp only [setL, List.getElem?_cons_zero, List.getElem?_cons_succ, Value.cells, List.take_zero, List.take_succ_cons, List.take_nil, List.drop_zero, List.drop_succ_cons, List.drop_nil, List.length_cons, List.length_nil, List.cons_append, List.nil_append, List.append_nil, Nat.zero_add, Nat.add_zero, Nat.reduceAdd, Nat.reduceBEq, Nat.reduceEqDiff, Nat.ble, BEq.rfl, Bool.and_true, Bool.and_self, cond_true, beq_self_eq_true]; rfl)) ?_)
      clear hh w; intro w hh
      refine wl (wl_val hl rfl trivial (r_assign hl rfl) ?_)
      clear hl a; intro a hl
      refine w_nil ?_
      have hl2 := hl.add (t := 6) (hl.add (t := 7) (hl.nil) rfl) rfl; clear hl; have hl := hl2; clear hl2
      refine then_normal ?_
      refine wp_ret ?_
      refine f_retCT (F' := []) hl hh rfl rfl agg41 (by repeat (first | exact find_head | apply find_tail)) (by first | rfl | exact arrL_length _ _ | (simp; done)) rfl (by repeat (first | exact keeps_nil | apply keeps_cons (by repeat (first | exact find_head | apply find_tail)) (by first  | rfl) | exact keeps_self | apply keeps_mv)) ?_
      exact ⟨by first | rfl | (unfold pfM sEq; simp_all; done), rfl⟩
    · intro hg2; clear hl; intro hl
      try simp only [decide_eq_true_eq, decide_eq_false_iff_not, Bool.not_eq_true', Bool.not_eq_false', Bool.not_eq_true, Bool.not_eq_false, Bool.and_eq_true, Bool.or_eq_true, Bool.and_eq_false_iff, Bool.or_eq_false_iff, Bool.not_not, ne_eq, Int.not_lt, Int.not_le, Decidable.not_not, beq_iff_eq, bne_iff_ne] at hg2
      refine wl (wl_skip hl rfl ⟨_, _, rfl, rfl, rfl⟩ ?_)
      clear hl a; intro a hl
      refine wl (wl_skip hl rfl ⟨_, _, rfl, rfl, rfl⟩ ?_)
      clear hl a; intro a hl
      refine wl (wl_val hl rfl trivial (r_pickF hl rfl rfl) ?_)
      clear hl a; intro a hl
      refine wl (w_storeA hl hh trivial agg41 rfl rfl (by repeat (first | exact find_head | apply find_tail)) (by first | rfl | (simp; done)) (by first | (simp; done) | (simp; omega)) (by first | rfl | (simp; done)) (by first | (simp only [setL, List.getElem?_cons_zero, List.getElem?_cons_succ, Value.cells, List.take_zero, List.take_succ_cons, List.take_nil, List.drop_zero, List.drop_succ_cons, List.drop_nil, List.length_cons, List.length_nil, List.cons_append, List.nil_append, List.append_nil, Nat.zero_add, Nat.add_zero, Nat.reduceAdd, Nat.reduceBEq, Nat.reduceEqDiff, Nat.ble, BEq.rfl, Bool.and_true, Bool.and_self, cond_true, beq_self_eq_true]; rfl)) ?_)
      clear hh w; intro w hh
      refine wl (wl_val hl rfl trivial (r_assign hl rfl) ?_)
      clear hl a; intro a hl
      refine w_nil ?_
      have hl2 := hl.add (t := 6) (hl.add (t := 7) (hl.nil) rfl) rfl; clear hl; have hl := hl2; clear hl2
      refine then_normal ?_
      refine wp_ret ?_
      refine f_retCT (F' := []) hl hh rfl rfl agg41 (by repeat (first | exact find_head | apply find_tail)) (by first | rfl | exact arrL_length _ _ | (simp; done)) rfl (by repeat (first | exact keeps_nil | apply keeps_cons (by repeat (first | exact find_head | apply find_tail)) (by first  | rfl) | exact keeps_self | apply keeps_mv)) ?_
      exact ⟨by first | rfl | (unfold pfM sEq; simp_all; done), rfl⟩
  · intro hg1; clear hl; intro hl
    try simp only [decide_eq_true_eq, decide_eq_false_iff_not, Bool.not_eq_true', Bool.not_eq_false', Bool.not_eq_true, Bool.not_eq_false, Bool.and_eq_true, Bool.or_eq_true, Bool.and_eq_false_iff, Bool.or_eq_false_iff, Bool.not_not, ne_eq, Int.not_lt, Int.not_le, Decidable.not_not, beq_iff_eq, bne_iff_ne] at hg1
    refine wl (wl_skip hl rfl ⟨_, _, rfl, rfl, rfl⟩ ?_)
    clear hl a; intro a hl
    refine wl (wl_val hl rfl trivial (r_pickF hl rfl rfl) ?_)
    clear hl a; intro a hl
    refine wl (wl_val hl rfl trivial (r_move hl rfl) ?_)
    clear hl a; intro a hl
    refine wl (wl_skip hl rfl ⟨_, _, rfl, rfl, rfl⟩ ?_)
    clear hl a; intro a hl
    refine wl (wl_skip hl rfl ⟨_, _, rfl, rfl, rfl⟩ ?_)
    clear hl a; intro a hl
    refine wl (wl_val hl rfl trivial (r_pickF hl rfl rfl) ?_)
    clear hl a; intro a hl
    refine wl (w_storeA hl hh trivial agg41 rfl rfl (by repeat (first | exact find_head | apply find_tail)) (by first | rfl | (simp; done)) (by first | (simp; done) | (simp; omega)) (by first | rfl | (simp; done)) (by first | (simp only [setL, List.getElem?_cons_zero, List.getElem?_cons_succ, Value.cells, List.take_zero, List.take_succ_cons, List.take_nil, List.drop_zero, List.drop_succ_cons, List.drop_nil, List.length_cons, List.length_nil, List.cons_append, List.nil_append, List.append_nil, Nat.zero_add, Nat.add_zero, Nat.reduceAdd, Nat.reduceBEq, Nat.reduceEqDiff, Nat.ble, BEq.rfl, Bool.and_true, Bool.and_self, cond_true, beq_self_eq_true]; rfl)) ?_)
    clear hh w; intro w hh
    refine wl (wl_val hl rfl trivial (r_assign hl rfl) ?_)
    clear hl a; intro a hl
    refine w_nil ?_
    have hl2 := hl.add (t := 6) (hl.add (t := 7) (hl.nil) rfl) rfl; clear hl; have hl := hl2; clear hl2
    refine then_normal ?_
    refine wp_ret ?_
    refine f_retCT (F' := []) hl hh rfl rfl agg41 (by repeat (first | exact find_head | apply find_tail)) (by first | rfl | exact arrL_length _ _ | (simp; done)) rfl (by repeat (first | exact keeps_nil | apply keeps_cons (by repeat (first | exact find_head | apply find_tail)) (by first  | rfl) | exact keeps_self | apply keeps_mv)) ?_
    exact ⟨by first | rfl | (unfold pfM sEq; simp_all; done), rfl⟩

def dvG (u : ByteArray) : Int := (dvM u).getD 0

def nmG (u : ByteArray) (mx : Int) : Int := (nmW u mx).getD 0

theorem tupB {A : Value} {x y : Bool} (h : x = y) : Value.tuple #[A, .bool x] = .tuple #[A, .bool y] := by rw [h]

def ln8 (x0 x1 x2 x3 x4 x5 x6 x7 : ByteArray) : Option Ch := if sEq x0 sRoute && sEq x1 sAdd && sEq x6 sVia && ((dvM x2).isSome && pfM x3 x4 x5 && (dvM x7).isSome) then some ⟨0, dvG x2, 0, 0, false, nmG x3 255, nmG x5 8, dvG x7, false, 0, 0, 0⟩ else none

def ln7 (x0 x1 x2 x3 x4 x5 x6 : ByteArray) : Option Ch := if sEq x0 sRoute && sEq x1 sAdd && sEq x6 sLocal && ((dvM x2).isSome && pfM x3 x4 x5) then some ⟨0, dvG x2, 0, 0, false, nmG x3 255, nmG x5 8, 16, false, 0, 0, 0⟩ else none

def ln6 (x0 x1 x2 x3 x4 x5 : ByteArray) : Option Ch := if sEq x0 sRoute && sEq x1 sDel && ((dvM x2).isSome && pfM x3 x4 x5) then some ⟨1, dvG x2, 0, 0, false, nmG x3 255, nmG x5 8, 0, false, 0, 0, 0⟩ else none

def ln10 (x0 x1 x2 x3 x4 x5 x6 x7 x8 x9 : ByteArray) : Option Ch := if sEq x0 sAcl && sEq x1 sInsert && sEq x8 sClass && ((dvM x2).isSome && (nmW x3 63).isSome && oo x4 sPermit sDeny && pfM x5 x6 x7 && (sEq x9 sAny || (nmW x9 15).isSome)) then some ⟨2, dvG x2, 0, nmG x3 63, false, 0, 0, 0, sEq x4 sPermit, nmG x5 255, nmG x7 8, if sEq x9 sAny then 16 else nmG x9 15⟩ else none

def ln4 (x0 x1 x2 x3 : ByteArray) : Option Ch :=
  if sEq x0 sAcl && sEq x1 sRemove then (if (dvM x2).isSome && (nmW x3 63).isSome then some ⟨3, dvG x2, 0, nmG x3 63, false, 0, 0, 0, false, 0, 0, 0⟩ else none)
  else if sEq x0 sLink || sEq x0 sIface then (if oo x1 sUp sDown && (dvM x2).isSome && (dvM x3).isSome then
      (if sEq x0 sLink then (if dvG x3 < dvG x2 then some ⟨4, dvG x3, dvG x2, 0, sEq x1 sUp, 0, 0, 0, false, 0, 0, 0⟩ else some ⟨4, dvG x2, dvG x3, 0, sEq x1 sUp, 0, 0, 0, false, 0, 0, 0⟩) else some ⟨5, dvG x2, dvG x3, 0, sEq x1 sUp, 0, 0, 0, false, 0, 0, 0⟩) else none)
  else none

def lnM : List ByteArray → Option Ch
  | [x0, x1, x2, x3, x4, x5, x6, x7] => ln8 x0 x1 x2 x3 x4 x5 x6 x7
  | [x0, x1, x2, x3, x4, x5, x6] => ln7 x0 x1 x2 x3 x4 x5 x6
  | [x0, x1, x2, x3, x4, x5] => ln6 x0 x1 x2 x3 x4 x5
  | [x0, x1, x2, x3, x4, x5, x6, x7, x8, x9] => ln10 x0 x1 x2 x3 x4 x5 x6 x7 x8 x9
  | [x0, x1, x2, x3] => ln4 x0 x1 x2 x3
  | _ => none

def LnR (o : Option Ch) (v : Value) : Prop := ∃ ch : Ch, v = .tuple #[.agg ⟨ch.vals⟩, .bool o.isSome] ∧ ch.ok ∧ ∀ c, o = some c → ch = c

theorem ln_no {o : Option Ch} {v : Value} {kd : Int} (h : o = none) (hk : 0 ≤ kd ∧ kd ≤ 255) (c : Ch) (hc : c.ok) (hv : v = .tuple #[.agg ⟨c.vals⟩, .bool false]) : LnR o v := ⟨c, by rw [h]; exact hv, hc, fun d hd => by rw [h] at hd; cases hd⟩

theorem ln_if {p : Bool} {c : Ch} {v : Value} (hc : c.ok) (hv : v = .tuple #[.agg ⟨c.vals⟩, .bool p]) : LnR (if p then some c else none) v := by
  cases p
  · exact ⟨c, hv, hc, fun d hd => by cases hd⟩
  · exact ⟨c, hv, hc, fun d hd => by injection hd⟩

theorem ln8_y {x0 x1 x2 x3 x4 x5 x6 x7 : ByteArray} (h0 : x0.toList = sRoute.toList) (h1 : x1.toList = sAdd.toList) (h6 : x6.toList = sVia.toList) : ln8 x0 x1 x2 x3 x4 x5 x6 x7 = if ((dvM x2).isSome && pfM x3 x4 x5 && (dvM x7).isSome) then some ⟨0, dvG x2, 0, 0, false, nmG x3 255, nmG x5 8, dvG x7, false, 0, 0, 0⟩ else none := by
  unfold ln8; rw [sEq_t h0, sEq_t h1, sEq_t h6]; rfl

theorem ln8_n {x0 x1 x2 x3 x4 x5 x6 x7 : ByteArray} (h : (x0.toList == sRoute.toList) = false ∨ (x1.toList == sAdd.toList) = false ∨ (x6.toList == sVia.toList) = false) : ln8 x0 x1 x2 x3 x4 x5 x6 x7 = none := by
  unfold ln8 sEq; rcases h with h | h | h <;> simp [h]

theorem ln7_y {x0 x1 x2 x3 x4 x5 x6 : ByteArray} (h0 : x0.toList = sRoute.toList) (h1 : x1.toList = sAdd.toList) (h6 : x6.toList = sLocal.toList) : ln7 x0 x1 x2 x3 x4 x5 x6 = if ((dvM x2).isSome && pfM x3 x4 x5) then some ⟨0, dvG x2, 0, 0, false, nmG x3 255, nmG x5 8, 16, false, 0, 0, 0⟩ else none := by
  unfold ln7; rw [sEq_t h0, sEq_t h1, sEq_t h6]; rfl

theorem ln7_n {x0 x1 x2 x3 x4 x5 x6 : ByteArray} (h : (x0.toList == sRoute.toList) = false ∨ (x1.toList == sAdd.toList) = false ∨ (x6.toList == sLocal.toList) = false) : ln7 x0 x1 x2 x3 x4 x5 x6 = none := by
  unfold ln7 sEq; rcases h with h | h | h <;> simp [h]

theorem ln6_y {x0 x1 x2 x3 x4 x5 : ByteArray} (h0 : x0.toList = sRoute.toList) (h1 : x1.toList = sDel.toList) : ln6 x0 x1 x2 x3 x4 x5 = if ((dvM x2).isSome && pfM x3 x4 x5) then some ⟨1, dvG x2, 0, 0, false, nmG x3 255, nmG x5 8, 0, false, 0, 0, 0⟩ else none := by
  unfold ln6; rw [sEq_t h0, sEq_t h1]; rfl

theorem ln6_n {x0 x1 x2 x3 x4 x5 : ByteArray} (h : (x0.toList == sRoute.toList) = false ∨ (x1.toList == sDel.toList) = false) : ln6 x0 x1 x2 x3 x4 x5 = none := by
  unfold ln6 sEq; rcases h with h | h <;> simp [h]

theorem ln10_y {x0 x1 x2 x3 x4 x5 x6 x7 x8 x9 : ByteArray} (h0 : x0.toList = sAcl.toList) (h1 : x1.toList = sInsert.toList) (h6 : x8.toList = sClass.toList) : ln10 x0 x1 x2 x3 x4 x5 x6 x7 x8 x9 = if ((dvM x2).isSome && (nmW x3 63).isSome && oo x4 sPermit sDeny && pfM x5 x6 x7 && (sEq x9 sAny || (nmW x9 15).isSome)) then some ⟨2, dvG x2, 0, nmG x3 63, false, 0, 0, 0, sEq x4 sPermit, nmG x5 255, nmG x7 8, if sEq x9 sAny then 16 else nmG x9 15⟩ else none := by
  unfold ln10; rw [sEq_t h0, sEq_t h1, sEq_t h6]; rfl

theorem ln10_n {x0 x1 x2 x3 x4 x5 x6 x7 x8 x9 : ByteArray} (h : (x0.toList == sAcl.toList) = false ∨ (x1.toList == sInsert.toList) = false ∨ (x8.toList == sClass.toList) = false) : ln10 x0 x1 x2 x3 x4 x5 x6 x7 x8 x9 = none := by
  unfold ln10 sEq; rcases h with h | h | h <;> simp [h]

theorem ln4_r {x0 x1 x2 x3 : ByteArray} (h0 : x0.toList = sAcl.toList) (h1 : x1.toList = sRemove.toList) : ln4 x0 x1 x2 x3 = if ((dvM x2).isSome && (nmW x3 63).isSome) then some ⟨3, dvG x2, 0, nmG x3 63, false, 0, 0, 0, false, 0, 0, 0⟩ else none := by
  unfold ln4; rw [sEq_t h0, sEq_t h1]; rfl

theorem sEq_g {a b : ByteArray} (h : (a.toList == b.toList) = false) : sEq a b = false := by unfold sEq; exact h

theorem sEq_sz {a b : ByteArray} (h : a.data ≠ b.data) : sEq a b = false := by
  unfold sEq
  cases hq : (a.toList == b.toList)
  · rfl
  · exact absurd (congrArg ByteArray.data (str_eq (eq_of_beq hq))) h

theorem acl_link {x0 : ByteArray} (h : x0.toList = sLink.toList) : sEq x0 sAcl = false := by rw [str_eq h]; exact sEq_sz (by decide)

theorem acl_iface {x0 : ByteArray} (h : x0.toList = sIface.toList) : sEq x0 sAcl = false ∧ sEq x0 sLink = false := by rw [str_eq h]; exact ⟨sEq_sz (by decide), sEq_sz (by decide)⟩

theorem ln4_l1 {x0 x1 x2 x3 : ByteArray} (h0 : x0.toList = sLink.toList) (h : (dvM x3).getD 0 < (dvM x2).getD 0) : ln4 x0 x1 x2 x3 = if (oo x1 sUp sDown && (dvM x2).isSome && (dvM x3).isSome) then some ⟨4, dvG x3, dvG x2, 0, sEq x1 sUp, 0, 0, 0, false, 0, 0, 0⟩ else none := by
  unfold ln4
  rw [acl_link h0, sEq_t h0]
  simp only [Bool.false_and, Bool.true_or, if_true, if_false, Bool.false_eq_true]
  rw [if_pos (show dvG x3 < dvG x2 from h)]

theorem ln4_l2 {x0 x1 x2 x3 : ByteArray} (h0 : x0.toList = sLink.toList) (h : ¬ (dvM x3).getD 0 < (dvM x2).getD 0) : ln4 x0 x1 x2 x3 = if (oo x1 sUp sDown && (dvM x2).isSome && (dvM x3).isSome) then some ⟨4, dvG x2, dvG x3, 0, sEq x1 sUp, 0, 0, 0, false, 0, 0, 0⟩ else none := by
  unfold ln4
  rw [acl_link h0, sEq_t h0]
  simp only [Bool.false_and, Bool.true_or, if_true, if_false, Bool.false_eq_true]
  rw [if_neg (show ¬ dvG x3 < dvG x2 from h)]

theorem ln4_i {x0 x1 x2 x3 : ByteArray} (h0 : x0.toList = sIface.toList) : ln4 x0 x1 x2 x3 = if (oo x1 sUp sDown && (dvM x2).isSome && (dvM x3).isSome) then some ⟨5, dvG x2, dvG x3, 0, sEq x1 sUp, 0, 0, 0, false, 0, 0, 0⟩ else none := by
  unfold ln4
  rw [(acl_iface h0).1, (acl_iface h0).2, sEq_t h0]
  simp only [Bool.false_and, Bool.false_or, if_true, if_false, Bool.false_eq_true]

theorem ln4_n {x0 x1 x2 x3 : ByteArray} (h : (x0.toList == sAcl.toList) = false ∨ (x1.toList == sRemove.toList) = false) (h1 : (x0.toList == sLink.toList) = false) (h2 : (x0.toList == sIface.toList) = false) : ln4 x0 x1 x2 x3 = none := by
  unfold ln4
  rw [sEq_g h1, sEq_g h2]
  rcases h with h | h
  · rw [sEq_g h]; rfl
  · rw [sEq_g h, Bool.and_false]; rfl
end Go.Proofs.Qxb6500908aGreat

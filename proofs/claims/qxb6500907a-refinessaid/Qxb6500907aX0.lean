import Derived.Test.Qxb6500907aRows
import Derived.Test.Qxb6500907aEng
import Derived.Test.Qxb6500907aStr
import Derived.Test.Qxb6500907aFun
import Derived.Test.Qxb6500907aByt
import Derived.Test.Qxb6500907aP0
import Derived.KernelRfl
namespace Go.Proofs.Qxb6500907a
open Go.Eng
set_option linter.unusedVariables false
set_option linter.unusedSimpArgs false

/-! ## the reader, plainly -/
def letB (c : Int) : Bool := decide (97 ≤ c) && decide (c ≤ 122)
def digB (c : Int) : Bool := decide (48 ≤ c) && decide (c ≤ 57)
def alnB (c : Int) : Bool := letB c || digB c
def nnlB (c : Int) : Bool := !decide (c = 10)
def blkB (c : Int) : Bool := decide (c = 32) || decide (c = 9) || decide (c = 13)
theorem dropW_le (p : Int → Bool) (l : List Int) : (l.dropWhile p).length ≤ l.length := (List.dropWhile_sublist p).length_le
def skL (l : List Int) : List Int := match l with
  | [] => []
  | c :: r => if c = 35 then skL (r.dropWhile nnlB) else if blkB c then skL r else c :: r
termination_by l.length
decreasing_by
  · have := dropW_le nnlB r; simp only [List.length_cons]; omega
  · simp only [List.length_cons]; omega
theorem skL_nil : skL [] = [] := by rw [skL]
theorem skL_cons (c : Int) (r : List Int) : skL (c :: r) = if c = 35 then skL (r.dropWhile nnlB) else if blkB c then skL r else c :: r := by rw [skL]
def decF : Int → List Int → Option Int
  | v, [] => some v
  | v, d :: ds => if v * 10 + (d - 48) > 4294967295 then none else decF (v * 10 + (d - 48)) ds
inductive Tk where
  | eof
  | nl
  | word (t : List Int)
  | num (n : Int)
  | slash
structure LxR where
  tok : Option Tk
  code : Int
  st : List Int
  rest : List Int
def lexC (c : Int) (r : List Int) : LxR :=
  if c = 10 then ⟨some .nl, 0, c :: r, r⟩ else if c = 47 then ⟨some .slash, 0, c :: r, r⟩
  else if letB c then ⟨some (.word (c :: r.takeWhile alnB)), 0, c :: r, r.dropWhile alnB⟩
  else if digB c then (match decF 0 (c :: r.takeWhile digB) with
    | some n => ⟨some (.num n), 0, c :: r, r.dropWhile digB⟩
    | none => ⟨none, 3, c :: r, r.dropWhile digB⟩)
  else ⟨none, 1, c :: r, r⟩
def lexL (l : List Int) : LxR := match skL l with
  | [] => ⟨some .eof, 0, [], []⟩
  | c :: r => lexC c r
def gD (l : List Int) (i : Nat) : Int := l.getD i 0
theorem dr {l : List Int} {i : Nat} (h : i < l.length) : l.drop i = gD l i :: l.drop (i + 1) := by
  rw [List.drop_eq_getElem_cons h]
  congr 1
  unfold gD
  rw [List.getD_eq_getElem?_getD, List.getElem?_eq_getElem h]; rfl
theorem dr_end {l : List Int} {i : Nat} (h : l.length ≤ i) : l.drop i = [] := List.drop_of_length_le h
/-- the cells of a text -/
def iv8 (l : List Int) : List Value := l.map (fun c => .int .u8 c)
def bA (l : List Int) : ByteArray := bstr (iv8 l)
def Tk.kind : Tk → Int
  | .eof => 0
  | .nl => 1
  | .word _ => 2
  | .num _ => 3
  | .slash => 4
def Tk.txt : Tk → ByteArray
  | .word t => bA t
  | _ => ⟨#[]⟩
def Tk.val : Tk → Int
  | .num n => n
  | _ => 0
/-- runs of a kind, by positions -/
theorem run_stop {p : Int → Bool} {l : List Int} {i j : Nat} (hij : i ≤ j) (hall : ∀ k, i ≤ k → k < j → p (gD l k) = true) (hj : j ≤ l.length) (hstop : j < l.length → p (gD l j) = false) : (l.drop i).takeWhile p = (l.drop i).take (j - i) ∧ (l.drop i).dropWhile p = l.drop j := by
  obtain ⟨d, rfl⟩ : ∃ d, j = i + d := ⟨j - i, by omega⟩
  induction d generalizing i with
  | zero =>
    rw [Nat.add_zero, Nat.sub_self, List.take_zero]
    rcases Nat.lt_or_ge i l.length with h | h
    · have hs := hstop (by omega)
      rw [Nat.add_zero] at hs
      rw [dr h, List.takeWhile_cons_of_neg (by rw [hs]; simp), List.dropWhile_cons_of_neg (by rw [hs]; simp)]
      exact ⟨rfl, rfl⟩
    · rw [dr_end h]; exact ⟨rfl, rfl⟩
  | succ d ih =>
    have hi : i < l.length := by omega
    have h0 := hall i (Nat.le_refl _) (by omega)
    obtain ⟨e1, e2⟩ := ih (i := i + 1) (by omega) (fun k h1 h2 => hall k (by omega) (by omega)) (by omega) (fun h => by have := hstop (by omega); rw [show i + (d + 1) = i + 1 + d by omega] at this; exact this)
    rw [dr hi, List.takeWhile_cons_of_pos h0, List.dropWhile_cons_of_pos h0, e1, e2]
    refine ⟨?_, by rw [show i + 1 + d = i + (d + 1) by omega]⟩
    rw [show i + (d + 1) - i = (i + 1 + d - (i + 1)) + 1 by omega, List.take_succ_cons]
/-- skipping, by positions -/
theorem sk_blank {l : List Int} {i : Nat} (h : i < l.length) (h1 : gD l i ≠ 35) (h2 : blkB (gD l i) = true) : skL (l.drop i) = skL (l.drop (i + 1)) := by
  rw [dr h, skL_cons, if_neg h1, if_pos h2]
theorem sk_stop {l : List Int} {i : Nat} (h : i < l.length) (h1 : gD l i ≠ 35) (h2 : blkB (gD l i) = false) : skL (l.drop i) = gD l i :: l.drop (i + 1) := by
  rw [dr h, skL_cons, if_neg h1, if_neg (by rw [h2]; simp)]
theorem sk_end {l : List Int} {i : Nat} (h : l.length ≤ i) : skL (l.drop i) = [] := by rw [dr_end h, skL_nil]
theorem sk_comment {l : List Int} {i j : Nat} (h : i < l.length) (h1 : gD l i = 35) (hij : i < j) (hall : ∀ k, i ≤ k → k < j → nnlB (gD l k) = true) (hj : j ≤ l.length) (hstop : j < l.length → nnlB (gD l j) = false) : skL (l.drop i) = skL (l.drop j) := by
  rw [dr h, skL_cons, if_pos h1, (run_stop (i := i + 1) (j := j) (by omega) (fun k a b => hall k (by omega) b) hj hstop).2]
theorem all_ext {p : Int → Bool} {l : List Int} {i j : Nat} (h : ∀ k, i ≤ k → k < j → p (gD l k) = true) (hj : p (gD l j) = true) : ∀ k, i ≤ k → k < j + 1 → p (gD l k) = true := fun k a b => by
  by_cases e : k = j
  · rw [e]; exact hj
  · exact h k a (by omega)
theorem take_word {l : List Int} {i j : Nat} (hij : i < j) (hj : j ≤ l.length) (hall : ∀ k, i + 1 ≤ k → k < j → alnB (gD l k) = true) (hstop : j < l.length → alnB (gD l j) = false) : gD l i :: (l.drop (i + 1)).takeWhile alnB = (l.drop i).take (j - i) ∧ (l.drop (i + 1)).dropWhile alnB = l.drop j := by
  obtain ⟨e1, e2⟩ := run_stop (i := i + 1) (j := j) (by omega) hall hj hstop
  refine ⟨?_, e2⟩
  rw [e1, dr (show i < l.length by omega), show j - i = (j - (i + 1)) + 1 by omega, List.take_succ_cons]
theorem take_num {l : List Int} {i j : Nat} (hij : i < j) (hj : j ≤ l.length) (hall : ∀ k, i + 1 ≤ k → k < j → digB (gD l k) = true) (hstop : j < l.length → digB (gD l j) = false) : gD l i :: (l.drop (i + 1)).takeWhile digB = (l.drop i).take (j - i) ∧ (l.drop (i + 1)).dropWhile digB = l.drop j := by
  obtain ⟨e1, e2⟩ := run_stop (i := i + 1) (j := j) (by omega) hall hj hstop
  refine ⟨?_, e2⟩
  rw [e1, dr (show i < l.length by omega), show j - i = (j - (i + 1)) + 1 by omega, List.take_succ_cons]
/-- the digits read so far -/
theorem decF_take {ds : List Int} {i : Nat} {v : Int} (h : i < ds.length) : decF v (ds.drop i) = if v * 10 + (gD ds i - 48) > 4294967295 then none else decF (v * 10 + (gD ds i - 48)) (ds.drop (i + 1)) := by
  rw [dr h]; rfl
theorem decF_rng : ∀ (ds : List Int) (v m : Int), 0 ≤ v → v ≤ 4294967295 → (∀ d ∈ ds, 48 ≤ d) → decF v ds = some m → 0 ≤ m ∧ m ≤ 4294967295
  | [], v, m, h1, h2, _, h => by injection h with h; subst h; exact ⟨h1, h2⟩
  | d :: ds, v, m, h1, h2, h3, h => by
    have := h3 d List.mem_cons_self
    unfold decF at h
    split at h
    · cases h
    · exact decF_rng ds _ m (by omega) (by omega) (fun x hx => h3 x (List.mem_cons_of_mem _ hx)) h
theorem iv8_len (l : List Int) : (iv8 l).length = l.length := by unfold iv8; rw [List.length_map]
theorem iv8_bytes (l : List Int) : ∀ v, v ∈ iv8 l → ∃ x : Int, v = .int .u8 x := fun v hv => by
  obtain ⟨x, _, rfl⟩ := List.mem_map.1 hv
  exact ⟨x, rfl⟩
theorem gD_drop (l : List Int) (i k : Nat) : gD (l.drop i) k = gD l (i + k) := by
  unfold gD; rw [List.getD_eq_getElem?_getD, List.getD_eq_getElem?_getD, List.getElem?_drop]
theorem gD_take {l : List Int} {m k : Nat} (h : k < m) : gD (l.take m) k = gD l k := by
  unfold gD; rw [List.getD_eq_getElem?_getD, List.getD_eq_getElem?_getD, List.getElem?_take_of_lt h]
theorem gD_get {l : List Int} {k : Nat} (h : k < l.length) : l[k]? = some (gD l k) := by
  unfold gD; rw [List.getD_eq_getElem?_getD, List.getElem?_eq_getElem h]; rfl
theorem cut_iv {c : List Value} {off : Nat} {src : List Int} (hbs : ∀ i, i < src.length → c[off + i]? = some (.int .u8 (gD src i)) ∧ 0 ≤ gD src i ∧ gD src i ≤ 255) {i j : Nat} (h : i ≤ j) (hj : j ≤ src.length) : (c.drop (off + i * 1)).take (j - i) = iv8 ((src.drop i).take (j - i)) := by
  apply List.ext_getElem?
  intro k
  by_cases hk : k < j - i
  · have h1 := (hbs (i + k) (by omega)).1
    unfold iv8
    rw [List.getElem?_take_of_lt hk, List.getElem?_drop, show off + i * 1 + k = off + (i + k) by omega, h1, List.getElem?_map, List.getElem?_take_of_lt hk, List.getElem?_drop, gD_get (by omega)]
    rfl
  · rw [List.getElem?_eq_none (by rw [List.length_take]; omega), List.getElem?_eq_none (by rw [iv8_len, List.length_take]; omega)]
theorem blk_f {c : Int} (h : c ≠ 32 ∧ c ≠ 9 ∧ c ≠ 13) : blkB c = false := by unfold blkB; simp [h.1, h.2.1, h.2.2]
theorem blk_t {c : Int} (h : c = 32 ∨ c = 9 ∨ c = 13) : blkB c = true := by unfold blkB; rcases h with h | h | h <;> simp [h]
theorem nnl_t {c : Int} (h : c ≠ 10) : nnlB c = true := by unfold nnlB; simp [h]
theorem nnl_f {c : Int} (h : c = 10) : nnlB c = false := by unfold nnlB; simp [h]
/-- what the lexer leaves -/
def NextZ (b : Nat) (sv : Value) (N : Nat) (Sc : List (Nat × Obj)) (x2 x3 x4 x5 x6 : Value) (r : LxR) (v : Value) (F' : List (Nat × Obj)) : Prop :=
  (∃ t, r.tok = some t ∧ v = .tuple #[.agg ⟨[.int .u8 t.kind, .int .i64 ((N - r.st.length : Nat) : Int), .string t.txt, .int .u32 t.val]⟩, .pointer none] ∧ F' = (b, C [sv, .int .i64 ((N - r.rest.length : Nat) : Int), x2, x3, x4, x5, x6] 93) :: Sc) ∨
  (r.tok = none ∧ ∃ k, v = .tuple #[.agg ⟨[.int .u8 0, .int .i64 0, .string ⟨#[]⟩, .int .u32 0]⟩, .pointer (some ⟨k, 0, none⟩)] ∧ F' = (k, C [.int .u8 r.code, .int .i64 ((N - r.st.length : Nat) : Int)] 79) :: (b, C [sv, .int .i64 ((N - r.rest.length : Nat) : Int), x2, x3, x4, x5, x6] 93) :: Sc)
theorem drop_back {l : List Int} {i : Nat} (h : i ≤ l.length) : l.length - (l.drop i).length = i := by rw [List.length_drop]; omega
theorem nz_tok {b : Nat} {sv : Value} {src : List Int} {Sc : List (Nat × Obj)} {x2 x3 x4 x5 x6 : Value} {r : LxR} {t : Tk} {i j : Nat} (h : r = ⟨some t, 0, src.drop i, src.drop j⟩) (hi : i ≤ src.length) (hj : j ≤ src.length) :
    NextZ b sv src.length Sc x2 x3 x4 x5 x6 r (.tuple #[.agg ⟨[.int .u8 t.kind, .int .i64 (i : Int), .string t.txt, .int .u32 t.val]⟩, .pointer none]) ((b, C [sv, .int .i64 (j : Int), x2, x3, x4, x5, x6] 93) :: Sc) := by
  subst h
  exact .inl ⟨t, rfl, by rw [drop_back hi], by rw [drop_back hj]⟩
theorem nz_err {b : Nat} {sv : Value} {src : List Int} {Sc : List (Nat × Obj)} {x2 x3 x4 x5 x6 : Value} {r : LxR} {code : Int} {i j : Nat} (h : r = ⟨none, code, src.drop i, src.drop j⟩) (hi : i ≤ src.length) (hj : j ≤ src.length) (k : Nat) :
    NextZ b sv src.length Sc x2 x3 x4 x5 x6 r (.tuple #[.agg ⟨[.int .u8 0, .int .i64 0, .string ⟨#[]⟩, .int .u32 0]⟩, .pointer (some ⟨k, 0, none⟩)]) ((k, C [.int .u8 code, .int .i64 (i : Int)] 79) :: (b, C [sv, .int .i64 (j : Int), x2, x3, x4, x5, x6] 93) :: Sc) := by
  subst h
  exact .inr ⟨rfl, k, rfl, by rw [drop_back hi, drop_back hj]⟩
theorem lx_eof {src : List Int} {pos i : Nat} (hsk : skL (src.drop i) = skL (src.drop pos)) (h : src.length ≤ i) (hi : i ≤ src.length) : lexL (src.drop pos) = ⟨some .eof, 0, src.drop i, src.drop i⟩ := by
  unfold lexL; rw [← hsk, sk_end h, dr_end h]
theorem lx_at {src : List Int} {pos i : Nat} (hsk : skL (src.drop i) = skL (src.drop pos)) (h : i < src.length) (h1 : gD src i ≠ 35) (h2 : blkB (gD src i) = false) : lexL (src.drop pos) = lexC (gD src i) (src.drop (i + 1)) := by
  unfold lexL; rw [← hsk, sk_stop h h1 h2]
theorem lx_nl {src : List Int} {i : Nat} (h : i < src.length) (hc : gD src i = 10) : lexC (gD src i) (src.drop (i + 1)) = ⟨some .nl, 0, src.drop i, src.drop (i + 1)⟩ := by
  unfold lexC; rw [if_pos hc, ← dr h]
theorem lx_slash {src : List Int} {i : Nat} (h : i < src.length) (h1 : gD src i ≠ 10) (hc : gD src i = 47) : lexC (gD src i) (src.drop (i + 1)) = ⟨some .slash, 0, src.drop i, src.drop (i + 1)⟩ := by
  unfold lexC; rw [if_neg h1, if_pos hc, ← dr h]
theorem lx_word {src : List Int} {i j : Nat} (h1 : gD src i ≠ 10) (h2 : gD src i ≠ 47) (hc : letB (gD src i) = true) (hij : i < j) (hj : j ≤ src.length) (hall : ∀ k, i + 1 ≤ k → k < j → alnB (gD src k) = true) (hstop : j < src.length → alnB (gD src j) = false) : lexC (gD src i) (src.drop (i + 1)) = ⟨some (.word ((src.drop i).take (j - i))), 0, src.drop i, src.drop j⟩ := by
  obtain ⟨e1, e2⟩ := take_word hij hj hall hstop
  unfold lexC; rw [if_neg h1, if_neg h2, if_pos hc, e1, e2, ← dr (show i < src.length by omega)]
theorem lx_num {src : List Int} {i j : Nat} (h1 : gD src i ≠ 10) (h2 : gD src i ≠ 47) (h3 : letB (gD src i) = false) (hc : digB (gD src i) = true) (hij : i < j) (hj : j ≤ src.length) (hall : ∀ k, i + 1 ≤ k → k < j → digB (gD src k) = true) (hstop : j < src.length → digB (gD src j) = false) : lexC (gD src i) (src.drop (i + 1)) = match decF 0 ((src.drop i).take (j - i)) with
    | some n => ⟨some (.num n), 0, src.drop i, src.drop j⟩
    | none => ⟨none, 3, src.drop i, src.drop j⟩ := by
  obtain ⟨e1, e2⟩ := take_num hij hj hall hstop
  unfold lexC; rw [if_neg h1, if_neg h2, if_neg (by rw [h3]; simp), if_pos hc, e1, e2, ← dr (show i < src.length by omega)]
theorem lx_bad {src : List Int} {i : Nat} (h : i < src.length) (h1 : gD src i ≠ 10) (h2 : gD src i ≠ 47) (h3 : letB (gD src i) = false) (h4 : digB (gD src i) = false) : lexC (gD src i) (src.drop (i + 1)) = ⟨none, 1, src.drop i, src.drop (i + 1)⟩ := by
  unfold lexC; rw [if_neg h1, if_neg h2, if_neg (by rw [h3]; simp), if_neg (by rw [h4]; simp), ← dr h]
theorem aln_f {c : Int} (h1 : letB c = false) (h2 : digB c = false) : alnB c = false := by unfold alnB; rw [h1, h2]; rfl
theorem dig_all {src : List Int} {i j : Nat} (hc : digB (gD src i) = true) (hj : j ≤ src.length) (hall : ∀ k, i + 1 ≤ k → k < j → digB (gD src k) = true) {off : Nat} {c : List Value} (hbs : ∀ i, i < src.length → c[off + i]? = some (.int .u8 (gD src i)) ∧ 0 ≤ gD src i ∧ gD src i ≤ 255) : ∀ z, z < ((src.drop i).take (j - i)).length → c[off + i * 1 + z]? = some (.int .u8 (gD ((src.drop i).take (j - i)) z)) ∧ digB (gD ((src.drop i).take (j - i)) z) = true := fun z hz => by
  rw [List.length_take, List.length_drop] at hz
  rw [gD_take (by omega), gD_drop, show off + i * 1 + z = off + (i + z) by omega]
  refine ⟨(hbs (i + z) (by omega)).1, ?_⟩
  by_cases e : z = 0
  · subst e; exact hc
  · exact hall (i + z) (by omega) (by omega)
theorem aln_l {c : Int} (h : letB c = true) : alnB c = true := by unfold alnB; rw [h]; rfl
theorem aln_d {c : Int} (h : digB c = true) : alnB c = true := by unfold alnB; rw [h]; cases letB c <;> rfl

end Go.Proofs.Qxb6500907a

import Derived.Test.Qxb6500907aX0
import Derived.Test.Qxb6500907aByf
import Derived.Test.Qxb6500907aP1
namespace Go.Proofs.Qxb6500907a
open Go.Eng
set_option linter.unusedVariables false
set_option linter.unusedSimpArgs false

/-! ## the parser, plainly -/
structure ZS where
  rest : List Int
  tok : Tk
  tp : Nat
  err : Option (Int × Int)
def ZS.cells (N : Nat) (sv : Value) (p : Option Addr) (z : ZS) : List Value := [sv, .int .i64 ((N - z.rest.length : Nat) : Int), .int .u8 z.tok.kind, .int .i64 (z.tp : Int), .string z.tok.txt, .int .u32 z.tok.val, .pointer p]
def failZ (z : ZS) (code p : Int) : ZS := if z.err.isNone then { z with err := some (code, p) } else z
def unexpZ (z : ZS) : ZS := failZ z (if z.tok.kind = 0 then 4 else 2) (z.tp : Int)
def advZ (N : Nat) (z : ZS) : ZS := if z.err.isNone then (match (lexL z.rest).tok with
    | some t => ⟨(lexL z.rest).rest, t, N - (lexL z.rest).st.length, none⟩
    | none => ⟨(lexL z.rest).rest, .eof, 0, some ((lexL z.rest).code, ((N - (lexL z.rest).st.length : Nat) : Int))⟩) else z
def sEq (a b : ByteArray) : Bool := a.toList == b.toList
def wordZ (N : Nat) (z : ZS) : ByteArray × ZS := if z.err.isNone then (if z.tok.kind = 2 then (z.tok.txt, advZ N z) else (⟨#[]⟩, unexpZ z)) else (⟨#[]⟩, z)
def kwZ (N : Nat) (z : ZS) (s1 s2 : ByteArray) : Bool × ZS := (sEq (wordZ N z).1 s1, if (wordZ N z).2.err.isNone && !sEq (wordZ N z).1 s1 && !sEq (wordZ N z).1 s2 then failZ (wordZ N z).2 2 (z.tp : Int) else (wordZ N z).2)
def numZ (N : Nat) (z : ZS) (mx code : Int) : Int × ZS := if z.err.isNone then (if z.tok.kind = 3 then (if z.tok.val > mx then (0, failZ z code (z.tp : Int)) else (z.tok.val, advZ N z)) else (0, unexpZ z)) else (0, z)
def dsW (w : ByteArray) : List Int := (List.range (w.size - 1)).map (fun i => byteAt w (i + 1))
/-- the number of a device's name; -1: no such name; -2: no such device -/
def devW (w : ByteArray) : Int := if w.size < 2 ∨ byteAt w 0 ≠ 114 then -1 else if (dsW w).all digB then (match decF 0 (dsW w) with
    | some n => if n ≥ 16 then -2 else n
    | none => -2) else -1
def devZ (N : Nat) (z : ZS) : Int × ZS := if (wordZ N z).2.err.isNone then (if devW (wordZ N z).1 = -1 then (0, failZ (wordZ N z).2 2 (z.tp : Int)) else if devW (wordZ N z).1 = -2 then (0, failZ (wordZ N z).2 6 (z.tp : Int)) else (devW (wordZ N z).1, (wordZ N z).2)) else (0, (wordZ N z).2)
def slZ (z : ZS) : ZS := if z.err.isNone && !decide (z.tok.kind = 4) then unexpZ z else z
def prefZ (N : Nat) (z : ZS) : (Int × Int) × ZS :=
  (((numZ N z 255 7).1, (numZ N (advZ N (slZ (numZ N z 255 7).2)) 8 7).1),
   if gpF (numZ N z 255 7).1 (numZ N (advZ N (slZ (numZ N z 255 7).2)) 8 7).1 then (numZ N (advZ N (slZ (numZ N z 255 7).2)) 8 7).2 else failZ (numZ N (advZ N (slZ (numZ N z 255 7).2)) 8 7).2 7 (z.tp : Int))
def blF (N : Nat) : Nat → ZS → ZS
  | 0, z => z
  | n + 1, z => if z.err.isNone && decide (z.tok.kind = 1) then blF N n (advZ N z) else z
def blZ (N : Nat) (z : ZS) : ZS := blF N (z.rest.length + 1) z
def eoZ (z : ZS) : ZS := if z.err.isNone && !decide (z.tok.kind = 1) then unexpZ z else z
def eolZ (N : Nat) (z : ZS) : ZS := blZ N (eoZ z)
/-! ## its memory -/
def ZX (Sc : List (Nat × Obj)) (z : ZS) (p : Option Addr) (X : List (Nat × Obj)) : Prop :=
  (z.err = none ∧ p = none ∧ X = Sc) ∨ ∃ k c e, z.err = some (c, e) ∧ p = some ⟨k, 0, none⟩ ∧ X = (k, C [.int .u8 c, .int .i64 e] 79) :: Sc
structure ZO (src : List Int) (z : ZS) : Prop where
  suf : ∃ k, k ≤ src.length ∧ z.rest = src.drop k
  val : 0 ≤ z.tok.val ∧ z.tok.val ≤ 4294967295
  tp : z.tp ≤ src.length
  txt : z.tok.txt.size ≤ src.length
  len : src.length ≤ 9223372036854775807
def PZ (b : Nat) (sv : Value) (src : List Int) (Sc : List (Nat × Obj)) (z' : ZS) (F' : List (Nat × Obj)) : Prop := ∃ p X, F' = (b, C (z'.cells src.length sv p) 93) :: X ∧ ZX Sc z' p X ∧ ZO src z'
theorem ZX.nn {Sc X : List (Nat × Obj)} {z : ZS} {p : Option Addr} (h : ZX Sc z p X) : z.err.isNone = p.isNone := by
  rcases h with ⟨h1, h2, _⟩ | ⟨k, c, e, h1, h2, _⟩
  · rw [h1, h2]; rfl
  · rw [h1, h2]; rfl
theorem ZX.ok {Sc X : List (Nat × Obj)} {z : ZS} {p : Option Addr} (h : ZX Sc z p X) (hp : p = none) : z.err = none ∧ X = Sc := by
  rcases h with ⟨h1, h2, h3⟩ | ⟨k, c, e, h1, h2, _⟩
  · exact ⟨h1, h3⟩
  · rw [hp] at h2; cases h2
theorem suf_lt {src : List Int} {k : Nat} (h : k ≤ src.length) : (src.drop k).length ≤ src.length ∧ src.length - (src.drop k).length = k := by rw [List.length_drop]; omega
theorem suf_eq (p : Int → Bool) (r : List Int) : r.dropWhile p = r.drop (r.length - (r.dropWhile p).length) := by
  obtain ⟨t, ht⟩ := List.dropWhile_suffix p (l := r)
  have hl := congrArg List.length ht
  rw [List.length_append] at hl
  rw [show r.length - (r.dropWhile p).length = t.length by omega]
  conv => rhs; arg 2; rw [← ht]
  rw [List.drop_left]
theorem skL_suf : ∀ (n : Nat) (l : List Int), l.length ≤ n → ∃ k, k ≤ l.length ∧ skL l = l.drop k
  | 0, l, h => ⟨0, Nat.zero_le _, by rw [show l = [] from List.length_eq_zero_iff.1 (by omega), skL_nil]; rfl⟩
  | n + 1, [], _ => ⟨0, Nat.le_refl _, by rw [skL_nil]; rfl⟩
  | n + 1, c :: r, h => by
    rw [List.length_cons] at h
    rw [skL_cons]
    by_cases h1 : c = 35
    · rw [if_pos h1]
      have hl := dropW_le nnlB r
      obtain ⟨k, hk, e⟩ := skL_suf n (r.dropWhile nnlB) (by omega)
      have hd : r.dropWhile nnlB = r.drop (r.length - (r.dropWhile nnlB).length) := suf_eq nnlB r
      refine ⟨1 + (r.length - (r.dropWhile nnlB).length) + k, by rw [List.length_cons]; omega, ?_⟩
      rw [e, hd, List.drop_drop, ← hd, show 1 + (r.length - (r.dropWhile nnlB).length) + k = (r.length - (r.dropWhile nnlB).length + k) + 1 by omega, List.drop_succ_cons]
    · rw [if_neg h1]
      by_cases h2 : blkB c = true
      · rw [if_pos h2]
        obtain ⟨k, hk, e⟩ := skL_suf n r (by omega)
        exact ⟨k + 1, by rw [List.length_cons]; omega, by rw [e, List.drop_succ_cons]⟩
      · rw [if_neg h2]; exact ⟨0, Nat.zero_le _, rfl⟩
theorem take_dig {p : Int → Bool} {r : List Int} : ∀ d ∈ r.takeWhile p, p d = true := fun d hd => by
  induction r with
  | nil => cases hd
  | cons c r ih =>
    by_cases h : p c = true
    · rw [List.takeWhile_cons_of_pos h] at hd
      rcases List.mem_cons.1 hd with rfl | hd
      · exact h
      · exact ih hd
    · rw [List.takeWhile_cons_of_neg h] at hd; cases hd
theorem bA_size (l : List Int) : (bA l).size = l.length := by
  unfold bA bstr iv8
  have key : ∀ (cs : List Value) (s : ByteArray), (cs.foldl (fun s v => s.push (u8Of v)) s).size = s.size + cs.length := by
    intro cs
    induction cs with
    | nil => intro s; rfl
    | cons c cs ih => intro s; rw [List.foldl_cons, ih, ByteArray.size_push, List.length_cons]; omega
  rw [key, List.length_map]; simp [ByteArray.size]
/-- what a token leaves -/
structure LOk (l : List Int) (r : LxR) : Prop where
  st : ∃ k, k ≤ l.length ∧ r.st = l.drop k
  rest : ∃ k, k ≤ l.length ∧ r.rest = l.drop k
  val : ∀ t, r.tok = some t → (0 ≤ t.val ∧ t.val ≤ 4294967295) ∧ t.txt.size ≤ l.length
  lt : ∀ t, r.tok = some t → t.kind ≠ 0 → r.rest.length < l.length
  code : r.tok = none → r.code = 1 ∨ r.code = 3
theorem drop_suf (p : Int → Bool) (r : List Int) : ∃ k, k ≤ r.length ∧ r.dropWhile p = r.drop k := ⟨r.length - (r.dropWhile p).length, by omega, suf_eq p r⟩
theorem lex_ok (l : List Int) : LOk l (lexL l) := by
  obtain ⟨k, hk, e⟩ := skL_suf l.length l (Nat.le_refl _)
  unfold lexL
  rw [e]
  cases hd : l.drop k with
  | nil => exact ⟨⟨l.length, Nat.le_refl _, by rw [List.drop_length]⟩, ⟨l.length, Nat.le_refl _, by rw [List.drop_length]⟩, fun t ht => by injection ht with ht; subst ht; exact ⟨⟨Int.le_refl _, by decide⟩, Nat.zero_le _⟩, fun t ht hk => by injection ht with ht; subst ht; exact absurd rfl hk, fun h => by cases h⟩
  | cons c r =>
    have hk1 : k + 1 ≤ l.length := by
      have := congrArg List.length hd
      rw [List.length_drop, List.length_cons] at this; omega
    have hr : r = l.drop (k + 1) := by rw [← List.drop_drop, hd]; rfl
    have hrk : r.length + (k + 1) = l.length := by rw [hr, List.length_drop]; omega
    have hrl : r.length < l.length := by omega
    have hsub : ∀ p : Int → Bool, ∃ k', k' ≤ l.length ∧ r.dropWhile p = l.drop k' := fun p => by
      obtain ⟨k2, h2, e2⟩ := drop_suf p r
      exact ⟨k + 1 + k2, by omega, by rw [e2, hr, List.drop_drop]⟩
    have hdl : ∀ p : Int → Bool, (r.dropWhile p).length < l.length := fun p => by have := dropW_le p r; omega
    have hst : ∃ k', k' ≤ l.length ∧ c :: r = l.drop k' := ⟨k, hk, hd.symm⟩
    have z : ∀ t : Tk, t.val = 0 → t.txt.size = 0 → (0 ≤ t.val ∧ t.val ≤ 4294967295) ∧ t.txt.size ≤ l.length := fun t h1 h2 => by rw [h1, h2]; exact ⟨⟨Int.le_refl _, by decide⟩, Nat.zero_le _⟩
    simp only
    unfold lexC
    by_cases c1 : c = 10
    · rw [if_pos c1]; exact ⟨hst, ⟨k + 1, hk1, hr⟩, fun t ht => by injection ht with ht; subst ht; exact z _ rfl rfl, fun t ht _ => hrl, fun h => by cases h⟩
    rw [if_neg c1]
    by_cases c2 : c = 47
    · rw [if_pos c2]; exact ⟨hst, ⟨k + 1, hk1, hr⟩, fun t ht => by injection ht with ht; subst ht; exact z _ rfl rfl, fun t ht _ => hrl, fun h => by cases h⟩
    rw [if_neg c2]
    by_cases c3 : letB c = true
    · rw [if_pos c3]
      refine ⟨hst, hsub _, fun t ht => ?_, fun t ht _ => hdl _, fun h => by cases h⟩
      injection ht with ht; subst ht
      refine ⟨⟨Int.le_refl _, by show (0 : Int) ≤ _; decide⟩, ?_⟩
      show (bA (c :: r.takeWhile alnB)).size ≤ l.length
      rw [bA_size, List.length_cons]
      have := (List.takeWhile_sublist alnB (l := r)).length_le
      omega
    rw [if_neg c3]
    by_cases c4 : digB c = true
    · rw [if_pos c4]
      cases hq : decF 0 (c :: r.takeWhile digB) with
      | none => exact ⟨hst, hsub _, fun t ht => (by cases ht), fun t ht => (by cases ht), fun _ => .inr rfl⟩
      | some n =>
        refine ⟨hst, hsub _, fun t ht => ?_, fun t ht _ => hdl _, fun h => by cases h⟩
        injection ht with ht; subst ht
        have hdg : ∀ x : Int, digB x = true → 48 ≤ x := fun x hx => by unfold digB at hx; simp only [Bool.and_eq_true, decide_eq_true_eq] at hx; exact hx.1
        exact ⟨decF_rng _ 0 n (Int.le_refl _) (by decide) (fun d hd9 => by
          rcases List.mem_cons.1 hd9 with rfl | hd9
          · exact hdg _ c4
          · exact hdg _ (take_dig d hd9)) hq, Nat.zero_le _⟩
    · rw [if_neg c4]; exact ⟨hst, ⟨k + 1, hk1, hr⟩, fun t ht => (by cases ht), fun t ht => (by cases ht), fun _ => .inl rfl⟩

end Go.Proofs.Qxb6500907a

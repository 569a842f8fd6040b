import Derived.Test.Qxb6500915aGreatDoorN0
namespace Go.Proofs.Qxb6500915aGreatDoor
open Go.Eng
set_option linter.unusedVariables false
set_option linter.unusedSimpArgs false

/-! ## rules spelt as rows of cells -/
section sp6
structure Ce where
  n : Int
  s : ByteArray
def cec (x : Ce) : List Value := [.int .i64 x.n, .string x.s]
theorem cec_len (x : Ce) : (cec x).length = 2 := rfl
theorem cec_one (x : Ce) : (cec x).all (·.oneCell') = true := rfl
def tm4 (t : Tm) : List Ce := [⟨t.k, e0⟩, ⟨t.v, e0⟩, ⟨t.i, e0⟩, ⟨0, t.s⟩]
def tsX (ts : List Tm) : List Ce := ts.flatMap tm4
def spT (ts : List Tm) : List Ce := ⟨(ts.length : Int), e0⟩ :: tsX ts
def spL (l : Lt) : List Ce := ⟨l.k, e0⟩ :: ⟨l.o, e0⟩ :: ⟨0, l.p⟩ :: spT l.a
def spR (r : Ru) : List Ce := ⟨0, r.p⟩ :: (spT r.a ++ r.b.flatMap spL)
def cmpC (x y : Ce) : Int := thn (cmpI x.n y.n) (cmpS x.s y.s)
def cmpX : List Ce → List Ce → Int
  | [], [] => 0
  | [], _ :: _ => -1
  | _ :: _, [] => 1
  | x :: a, y :: b => thn (cmpC x y) (cmpX a b)
theorem thn_as (a b c : Int) : thn (thn a b) c = thn a (thn b c) := by
  unfold thn
  by_cases h : a = 0
  · rw [if_pos h, if_pos h]
  · rw [if_neg h, if_neg h, if_neg h]
theorem thn_r0 (a : Int) : thn a 0 = a := by unfold thn; split <;> omega
theorem cmpI_self (a : Int) : cmpI a a = 0 := by unfold cmpI; rw [if_neg (by omega), if_neg (by omega)]
theorem cC_n (a b : Int) (s : ByteArray) : cmpC ⟨a, s⟩ ⟨b, s⟩ = cmpI a b := by unfold cmpC; rw [cmpS_self]; exact thn_r0 _
theorem cC_s (a : Int) (s t : ByteArray) : cmpC ⟨a, s⟩ ⟨a, t⟩ = cmpS s t := by unfold cmpC; rw [cmpI_self]; exact thn_0 rfl
theorem cX_ts : ∀ (a b : List Tm) (u v : List Ce), a.length = b.length → cmpX (tsX a ++ u) (tsX b ++ v) = thn (cmpTs a b) (cmpX u v)
  | [], [], u, v, _ => by show cmpX u v = thn 0 (cmpX u v); rw [thn_0 rfl]
  | x :: a, y :: b, u, v, e => by
    have ih := cX_ts a b u v (by simpa using e)
    show thn (cmpC ⟨x.k, e0⟩ ⟨y.k, e0⟩) (thn (cmpC ⟨x.v, e0⟩ ⟨y.v, e0⟩) (thn (cmpC ⟨x.i, e0⟩ ⟨y.i, e0⟩) (thn (cmpC ⟨0, x.s⟩ ⟨0, y.s⟩) (cmpX (tsX a ++ u) (tsX b ++ v))))) = thn (thn (cmpT x y) (cmpTs a b)) (cmpX u v)
    rw [cC_n, cC_n, cC_n, cC_s, ih, thn_as]
    show _ = thn (thn (cmpI x.k y.k) (thn (cmpI x.v y.v) (thn (cmpI x.i y.i) (cmpS x.s y.s)))) _
    rw [thn_as, thn_as, thn_as]
theorem cX_T (a b : List Tm) (u v : List Ce) : cmpX (spT a ++ u) (spT b ++ v) = thn (cmpI a.length b.length) (thn (cmpTs a b) (cmpX u v)) := by
  show thn (cmpC ⟨(a.length : Int), e0⟩ ⟨(b.length : Int), e0⟩) (cmpX (tsX a ++ u) (tsX b ++ v)) = _
  rw [cC_n]
  by_cases h : cmpI (a.length : Int) b.length = 0
  · rw [cX_ts a b u v (cmpI_len h)]
  · rw [thn_1 h, thn_1 h]
theorem cX_L (x y : Lt) (u v : List Ce) : cmpX (spL x ++ u) (spL y ++ v) = thn (cmpL x y) (cmpX u v) := by
  show thn (cmpC ⟨x.k, e0⟩ ⟨y.k, e0⟩) (thn (cmpC ⟨x.o, e0⟩ ⟨y.o, e0⟩) (thn (cmpC ⟨0, x.p⟩ ⟨0, y.p⟩) (cmpX (spT x.a ++ u) (spT y.a ++ v)))) = thn (thn (cmpI x.k y.k) (thn (cmpI x.o y.o) (thn (cmpS x.p y.p) (thn (cmpI x.a.length y.a.length) (cmpTs x.a y.a))))) (cmpX u v)
  rw [cC_n, cC_n, cC_s, cX_T, thn_as, thn_as, thn_as, thn_as]
theorem cX_B : ∀ a b : List Lt, cmpX (a.flatMap spL) (b.flatMap spL) = cmpB a b
  | [], [] => rfl
  | [], y :: b => rfl
  | x :: a, [] => rfl
  | x :: a, y :: b => by
    rw [List.flatMap_cons, List.flatMap_cons, cX_L, cX_B a b]; rfl
theorem cX_R (a b : Ru) : cmpX (spR a) (spR b) = cmpR a b := by
  show thn (cmpC ⟨0, a.p⟩ ⟨0, b.p⟩) (cmpX (spT a.a ++ a.b.flatMap spL) (spT b.a ++ b.b.flatMap spL)) = thn (thn (cmpS a.p b.p) (thn (cmpI a.a.length b.a.length) (cmpTs a.a b.a))) (cmpB a.b b.b)
  rw [cC_s, cX_T, cX_B, thn_as, thn_as]
theorem cX_drop {a b : List Ce} {i : Nat} {x y : Ce} (h1 : a[i]? = some x) (h2 : b[i]? = some y) : cmpX (a.drop i) (b.drop i) = thn (cmpC x y) (cmpX (a.drop (i + 1)) (b.drop (i + 1))) := by
  obtain ⟨l1, rfl⟩ := List.getElem?_eq_some_iff.1 h1
  obtain ⟨l2, rfl⟩ := List.getElem?_eq_some_iff.1 h2
  rw [List.drop_eq_getElem_cons l1, List.drop_eq_getElem_cons l2]; rfl
theorem cX_end {a b : List Ce} {i : Nat} (h : a.length ≤ i ∨ b.length ≤ i) (h1 : i ≤ a.length) (h2 : i ≤ b.length) : decide (cmpX (a.drop i) (b.drop i) < 0) = decide ((a.length : Int) < b.length) := by
  rcases h with h | h
  · rw [List.drop_of_length_le h]
    cases hb : b.drop i with
    | nil =>
      have := congrArg List.length hb
      rw [List.length_drop, List.length_nil] at this
      show decide ((0 : Int) < 0) = _
      rw [decide_eq_false (by omega), decide_eq_false (by omega)]
    | cons y l =>
      have := congrArg List.length hb
      rw [List.length_drop, List.length_cons] at this
      show decide ((-1 : Int) < 0) = _
      rw [decide_eq_true (by omega), decide_eq_true (by omega)]
  · rw [List.drop_of_length_le h]
    cases ha : a.drop i with
    | nil =>
      have := congrArg List.length ha
      rw [List.length_drop, List.length_nil] at this
      show decide ((0 : Int) < 0) = _
      rw [decide_eq_false (by omega), decide_eq_false (by omega)]
    | cons y l =>
      have := congrArg List.length ha
      rw [List.length_drop, List.length_cons] at this
      show decide ((1 : Int) < 0) = _
      rw [decide_eq_false (by omega), decide_eq_false (by omega)]
theorem cX_n {x y : Ce} (h : ¬ x.n = y.n) (r : Int) : decide (thn (cmpC x y) r < 0) = decide (x.n < y.n) := by
  unfold cmpC thn cmpI
  by_cases h1 : x.n < y.n
  · simp [h1]
  · have h2 : y.n < x.n := by omega
    simp [h1, h2]
theorem cX_s {x y : Ce} (h : x.n = y.n) (hs : ¬ x.s = y.s) (r : Int) : decide (thn (cmpC x y) r < 0) = decide (cmpS x.s y.s < 0) := by
  have h1 : cmpI x.n y.n = 0 := by rw [h]; exact cmpI_self _
  have h2 : ¬ cmpS x.s y.s = 0 := fun h9 => hs (cmpS_eq h9)
  unfold cmpC
  rw [thn_0 h1, thn_1 h2]
theorem cX_0 {x y : Ce} (h : x.n = y.n) (hs : x.s = y.s) (r : Int) : thn (cmpC x y) r = r := by
  have h1 : cmpC x y = 0 := by
    unfold cmpC
    rw [h, hs, cmpI_self, cmpS_self]; rfl
  exact thn_0 h1
theorem spT_len (ts : List Tm) : (spT ts).length = 4 * ts.length + 1 := by
  have : ∀ ts : List Tm, (tsX ts).length = 4 * ts.length := by
    intro ts
    induction ts with
    | nil => rfl
    | cons t ts ih => show (tm4 t ++ tsX ts).length = _; rw [List.length_append, ih, List.length_cons]; show 4 + _ = _; omega
  show (tsX ts).length + 1 = _
  rw [this]
theorem tsX_snoc {ts : List Tm} {i : Nat} {t : Tm} (h : ts[i]? = some t) : tsX (ts.take (i + 1)) = tsX (ts.take i) ++ tm4 t := by
  unfold tsX; rw [List.take_add_one, h, List.flatMap_append]; simp
end sp6
structure SZ where
  i : Nat
  row : List Ce
  p : Option Addr
  c : Nat
  E : List (Nat × Obj)
theorem fl_t4 (row : List Ce) (t : Tm) : fl cec (row ++ tm4 t) = fl cec row ++ [.int .i64 t.k, .string ⟨#[]⟩, .int .i64 t.v, .string ⟨#[]⟩, .int .i64 t.i, .string ⟨#[]⟩, .int .i64 0, .string t.s] := by rw [fl_app]; rfl
theorem fl_l3 (row : List Ce) (l : Lt) : fl cec (row ++ [⟨l.k, e0⟩, ⟨l.o, e0⟩, ⟨0, l.p⟩]) = fl cec row ++ [.int .i64 l.k, .string ⟨#[]⟩, .int .i64 l.o, .string ⟨#[]⟩, .int .i64 0, .string l.p] := by rw [fl_app]; rfl
theorem fl_n1 (row : List Ce) (n : Int) : fl cec (row ++ [⟨n, e0⟩]) = fl cec row ++ [.int .i64 n, .string ⟨#[]⟩] := by rw [fl_app]; rfl
theorem spT_all {ts : List Tm} {row : List Ce} {i : Nat} (hi : i = ts.length) : (row ++ [⟨(ts.length : Int), e0⟩]) ++ tsX (ts.take i) = row ++ spT ts := by
  rw [hi, List.take_length, List.append_assoc]; rfl
theorem spB_snoc {ls : List Lt} {i : Nat} {l : Lt} (h : ls[i]? = some l) : (ls.take (i + 1)).flatMap spL = (ls.take i).flatMap spL ++ spL l := by
  rw [List.take_add_one, h, List.flatMap_append]; simp

end Go.Proofs.Qxb6500915aGreatDoor

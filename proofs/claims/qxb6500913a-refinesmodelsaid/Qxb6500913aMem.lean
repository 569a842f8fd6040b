import Derived.Test.Qxb6500913aRows
import Derived.Test.Qxb6500913aEng
import Derived.KernelRfl
namespace Go.Proofs.Qxb6500913a
open Go.Eng
set_option linter.unusedVariables false

def upd (f : Nat → Int) (i : Nat) (x : Int) : Nat → Int := fun j => if j = i then x else f j
def kindAt (i : Nat) : IntKind :=
  if i < 4096 then .u64 else if i < 20480 then (if i % 4 = 0 then .u64 else if i % 4 = 1 then .u32 else .u8)
  else if i < 20497 then .u32 else if i < 20498 then .u64 else .i64
def encL (f : Nat → Int) : List Value := (List.range 20503).map fun i => .int (kindAt i) (f i)
def litsL (f : Nat → Int) : List Lit := (List.range 20503).map fun i => .int (kindAt i) (f i)
def kinds87 : List TypeDesc := (List.range 20503).map fun i => .int (kindAt i)
def Wf (f : Nat → Int) : Prop := ∀ i, i < 20503 → Fits (kindAt i) (f i)
def same (f g : Nat → Int) : Bool := eqLits (litsL f) (litsL g)
theorem encL_length (f : Nat → Int) : (encL f).length = 20503 := by simp [encL]
theorem encL_get (f : Nat → Int) (i : Nat) (h : i < 20503) : (encL f)[i]? = some (.int (kindAt i) (f i)) := by simp [encL, h]
theorem encL_set (f : Nat → Int) (i : Nat) (k : IntKind) (x : Int) (h : i < 20503) (hk : kindAt i = k) : setL (encL f) i [.int k x] = encL (upd f i x) := by
  subst hk
  have hl := encL_length f
  apply List.ext_getElem?
  intro j
  simp only [setL, List.length_cons, List.length_nil, Nat.zero_add]
  by_cases h1 : j < i
  · rw [List.append_assoc, List.getElem?_append_left (by simp [hl]; omega), List.getElem?_take, if_pos h1, encL_get f j (by omega), encL_get _ j (by omega)]
    simp [upd, show ¬ j = i by omega]
  · by_cases h2 : j = i
    · subst h2
      rw [List.append_assoc, List.getElem?_append_right (by simp [hl]; omega), encL_get _ j h]
      simp [hl, upd, show min j 20503 = j by omega]
    · rw [List.append_assoc, List.getElem?_append_right (by simp [hl]; omega)]
      simp only [List.length_take, hl, show min i 20503 = i by omega]
      rw [List.getElem?_append_right (by simp; omega)]
      simp only [List.getElem?_drop, List.length_cons, List.length_nil, Nat.zero_add]
      rw [show i + 1 + (j - i - 1) = j by omega]
      by_cases h3 : j < 20503
      · rw [encL_get f j h3, encL_get _ j h3]; simp [upd, h2]
      · rw [List.getElem?_eq_none (by omega), List.getElem?_eq_none (by rw [encL_length]; omega)]
theorem encL_inj (f g : Nat → Int) : encL f = encL g ↔ ∀ i, i < 20503 → f i = g i := by
  constructor
  · intro h i hi
    have := congrArg (fun l : List Value => l[i]?) h
    simp only [encL_get f i hi, encL_get g i hi] at this
    simpa using this
  · intro h
    apply List.ext_getElem?
    intro i
    by_cases hi : i < 20503
    · rw [encL_get f i hi, encL_get g i hi, h i hi]
    · rw [List.getElem?_eq_none (by rw [encL_length]; omega), List.getElem?_eq_none (by rw [encL_length]; omega)]

def word (f : Nat → Int) (i : Nat) : Int := f (i)
def setWord (f : Nat → Int) (i : Nat) (x : Int) : Nat → Int := upd f (i) x
theorem cell_word (f : Nat → Int) (i : Nat) (h : i < 4096) : (encL f)[0 + 0 + i * 1]? = some (.int .u64 (word f i)) := by
  rw [show 0 + 0 + i * 1 = i by omega, encL_get f _ (by omega)]; congr 2; unfold kindAt; repeat (first | rw [if_pos (by omega)] | rw [if_neg (by omega)])
theorem st_word (f : Nat → Int) (i : Nat) (x : Int) (h : i < 4096) : setL (encL f) (0 + 0 + i * 1) [.int .u64 x] = encL (setWord f i x) := by
  rw [show 0 + 0 + i * 1 = i by omega]; exact encL_set f _ _ x (by omega) (by unfold kindAt; repeat (first | rw [if_pos (by omega)] | rw [if_neg (by omega)]))
def gen (f : Nat → Int) (i : Nat) : Int := f (4096 + i * 4)
def setGen (f : Nat → Int) (i : Nat) (x : Int) : Nat → Int := upd f (4096 + i * 4) x
theorem cell_gen (f : Nat → Int) (i : Nat) (h : i < 4096) : (encL f)[0 + 4096 + i * 4 + 0]? = some (.int .u64 (gen f i)) := by
  rw [show 0 + 4096 + i * 4 + 0 = 4096 + i * 4 by omega, encL_get f _ (by omega)]; congr 2; unfold kindAt; repeat (first | rw [if_pos (by omega)] | rw [if_neg (by omega)])
theorem st_gen (f : Nat → Int) (i : Nat) (x : Int) (h : i < 4096) : setL (encL f) (0 + 4096 + i * 4 + 0) [.int .u64 x] = encL (setGen f i x) := by
  rw [show 0 + 4096 + i * 4 + 0 = 4096 + i * 4 by omega]; exact encL_set f _ _ x (by omega) (by unfold kindAt; repeat (first | rw [if_pos (by omega)] | rw [if_neg (by omega)]))
def nxt (f : Nat → Int) (i : Nat) : Int := f (4096 + i * 4 + 1)
def setNxt (f : Nat → Int) (i : Nat) (x : Int) : Nat → Int := upd f (4096 + i * 4 + 1) x
theorem cell_nxt (f : Nat → Int) (i : Nat) (h : i < 4096) : (encL f)[0 + 4096 + i * 4 + 1]? = some (.int .u32 (nxt f i)) := by
  rw [show 0 + 4096 + i * 4 + 1 = 4096 + i * 4 + 1 by omega, encL_get f _ (by omega)]; congr 2; unfold kindAt; repeat (first | rw [if_pos (by omega)] | rw [if_neg (by omega)])
theorem st_nxt (f : Nat → Int) (i : Nat) (x : Int) (h : i < 4096) : setL (encL f) (0 + 4096 + i * 4 + 1) [.int .u32 x] = encL (setNxt f i x) := by
  rw [show 0 + 4096 + i * 4 + 1 = 4096 + i * 4 + 1 by omega]; exact encL_set f _ _ x (by omega) (by unfold kindAt; repeat (first | rw [if_pos (by omega)] | rw [if_neg (by omega)]))
def sz (f : Nat → Int) (i : Nat) : Int := f (4096 + i * 4 + 2)
def setSz (f : Nat → Int) (i : Nat) (x : Int) : Nat → Int := upd f (4096 + i * 4 + 2) x
theorem cell_sz (f : Nat → Int) (i : Nat) (h : i < 4096) : (encL f)[0 + 4096 + i * 4 + 2]? = some (.int .u8 (sz f i)) := by
  rw [show 0 + 4096 + i * 4 + 2 = 4096 + i * 4 + 2 by omega, encL_get f _ (by omega)]; congr 2; unfold kindAt; repeat (first | rw [if_pos (by omega)] | rw [if_neg (by omega)])
theorem st_sz (f : Nat → Int) (i : Nat) (x : Int) (h : i < 4096) : setL (encL f) (0 + 4096 + i * 4 + 2) [.int .u8 x] = encL (setSz f i x) := by
  rw [show 0 + 4096 + i * 4 + 2 = 4096 + i * 4 + 2 by omega]; exact encL_set f _ _ x (by omega) (by unfold kindAt; repeat (first | rw [if_pos (by omega)] | rw [if_neg (by omega)]))
def role (f : Nat → Int) (i : Nat) : Int := f (4096 + i * 4 + 3)
def setRole (f : Nat → Int) (i : Nat) (x : Int) : Nat → Int := upd f (4096 + i * 4 + 3) x
theorem cell_role (f : Nat → Int) (i : Nat) (h : i < 4096) : (encL f)[0 + 4096 + i * 4 + 3]? = some (.int .u8 (role f i)) := by
  rw [show 0 + 4096 + i * 4 + 3 = 4096 + i * 4 + 3 by omega, encL_get f _ (by omega)]; congr 2; unfold kindAt; repeat (first | rw [if_pos (by omega)] | rw [if_neg (by omega)])
theorem st_role (f : Nat → Int) (i : Nat) (x : Int) (h : i < 4096) : setL (encL f) (0 + 4096 + i * 4 + 3) [.int .u8 x] = encL (setRole f i x) := by
  rw [show 0 + 4096 + i * 4 + 3 = 4096 + i * 4 + 3 by omega]; exact encL_set f _ _ x (by omega) (by unfold kindAt; repeat (first | rw [if_pos (by omega)] | rw [if_neg (by omega)]))
def lst (f : Nat → Int) (i : Nat) : Int := f (20480 + i)
def setLst (f : Nat → Int) (i : Nat) (x : Int) : Nat → Int := upd f (20480 + i) x
theorem cell_lst (f : Nat → Int) (i : Nat) (h : i < 16) : (encL f)[0 + 20480 + i * 1]? = some (.int .u32 (lst f i)) := by
  rw [show 0 + 20480 + i * 1 = 20480 + i by omega, encL_get f _ (by omega)]; congr 2; unfold kindAt; repeat (first | rw [if_pos (by omega)] | rw [if_neg (by omega)])
theorem st_lst (f : Nat → Int) (i : Nat) (x : Int) (h : i < 16) : setL (encL f) (0 + 20480 + i * 1) [.int .u32 x] = encL (setLst f i x) := by
  rw [show 0 + 20480 + i * 1 = 20480 + i by omega]; exact encL_set f _ _ x (by omega) (by unfold kindAt; repeat (first | rw [if_pos (by omega)] | rw [if_neg (by omega)]))
def fresh (f : Nat → Int) : Int := f 20496
def setFresh (f : Nat → Int) (x : Int) : Nat → Int := upd f 20496 x
theorem cell_fresh (f : Nat → Int) : (encL f)[0 + 20496]? = some (.int .u32 (fresh f)) := by
  rw [encL_get f _ (by omega)]; rfl
theorem st_fresh (f : Nat → Int) (x : Int) : setL (encL f) (0 + 20496) [.int .u32 x] = encL (setFresh f x) := encL_set f 20496 _ x (by omega) rfl
def boot (f : Nat → Int) : Int := f 20497
def setBoot (f : Nat → Int) (x : Int) : Nat → Int := upd f 20497 x
theorem cell_boot (f : Nat → Int) : (encL f)[0 + 20497]? = some (.int .u64 (boot f)) := by
  rw [encL_get f _ (by omega)]; rfl
theorem st_boot (f : Nat → Int) (x : Int) : setL (encL f) (0 + 20497) [.int .u64 x] = encL (setBoot f x) := encL_set f 20497 _ x (by omega) rfl
def cnNil (f : Nat → Int) : Int := f 20498
def setCnNil (f : Nat → Int) (x : Int) : Nat → Int := upd f 20498 x
theorem cell_cnNil (f : Nat → Int) : (encL f)[0 + 20498 + 0]? = some (.int .i64 (cnNil f)) := by
  rw [encL_get f _ (by omega)]; rfl
theorem st_cnNil (f : Nat → Int) (x : Int) : setL (encL f) (0 + 20498 + 0) [.int .i64 x] = encL (setCnNil f x) := encL_set f 20498 _ x (by omega) rfl
def cnLive (f : Nat → Int) : Int := f 20499
def setCnLive (f : Nat → Int) (x : Int) : Nat → Int := upd f 20499 x
theorem cell_cnLive (f : Nat → Int) : (encL f)[0 + 20498 + 1]? = some (.int .i64 (cnLive f)) := by
  rw [encL_get f _ (by omega)]; rfl
theorem st_cnLive (f : Nat → Int) (x : Int) : setL (encL f) (0 + 20498 + 1) [.int .i64 x] = encL (setCnLive f x) := encL_set f 20499 _ x (by omega) rfl
def cnFree (f : Nat → Int) : Int := f 20500
def setCnFree (f : Nat → Int) (x : Int) : Nat → Int := upd f 20500 x
theorem cell_cnFree (f : Nat → Int) : (encL f)[0 + 20498 + 2]? = some (.int .i64 (cnFree f)) := by
  rw [encL_get f _ (by omega)]; rfl
theorem st_cnFree (f : Nat → Int) (x : Int) : setL (encL f) (0 + 20498 + 2) [.int .i64 x] = encL (setCnFree f x) := encL_set f 20500 _ x (by omega) rfl
def cnSpent (f : Nat → Int) : Int := f 20501
def setCnSpent (f : Nat → Int) (x : Int) : Nat → Int := upd f 20501 x
theorem cell_cnSpent (f : Nat → Int) : (encL f)[0 + 20498 + 3]? = some (.int .i64 (cnSpent f)) := by
  rw [encL_get f _ (by omega)]; rfl
theorem st_cnSpent (f : Nat → Int) (x : Int) : setL (encL f) (0 + 20498 + 3) [.int .i64 x] = encL (setCnSpent f x) := encL_set f 20501 _ x (by omega) rfl
def cnUnt (f : Nat → Int) : Int := f 20502
def setCnUnt (f : Nat → Int) (x : Int) : Nat → Int := upd f 20502 x
theorem cell_cnUnt (f : Nat → Int) : (encL f)[0 + 20498 + 4]? = some (.int .i64 (cnUnt f)) := by
  rw [encL_get f _ (by omega)]; rfl
theorem st_cnUnt (f : Nat → Int) (x : Int) : setL (encL f) (0 + 20498 + 4) [.int .i64 x] = encL (setCnUnt f x) := encL_set f 20502 _ x (by omega) rfl
theorem cell_census (f : Nat → Int) : ((encL f).drop (0 + 20498)).take 5 = [.int .i64 (cnNil f), .int .i64 (cnLive f), .int .i64 (cnFree f), .int .i64 (cnSpent f), .int .i64 (cnUnt f)] := by
  apply List.ext_getElem?
  intro i
  rw [List.getElem?_take, List.getElem?_drop]
  by_cases h : i < 5
  · rw [if_pos h, encL_get f _ (by omega)]
    match i, h with
    | 0, _ => rfl
    | 1, _ => rfl
    | 2, _ => rfl
    | 3, _ => rfl
    | 4, _ => rfl
  · rw [if_neg h, List.getElem?_eq_none (by simp; omega)]

theorem cell_all (f : Nat → Int) : ((encL f).drop 0).take 20503 = encL f := by rw [List.drop_zero, List.take_of_length_le (by rw [encL_length]; omega)]
theorem encL_one (f : Nat → Int) : (encL f).all (·.oneCell') = true := by
  rw [List.all_eq_true]; intro v hv
  simp only [encL, List.mem_map] at hv
  obtain ⟨i, _, rfl⟩ := hv; rfl
theorem st_all (f g : Nat → Int) : setL (encL f) 0 (encL g) = encL g := by
  unfold setL; rw [List.take_zero, List.nil_append, List.drop_eq_nil_of_le (by rw [encL_length, encL_length]; omega), List.append_nil]
theorem unlit_map (k : Nat → IntKind) (f : Nat → Int) : ∀ l : List Nat, unlitL (l.map fun i => .int (k i) (f i)) = some (l.map fun i => .int (k i) (f i))
  | [] => rfl
  | i :: l => by simp only [List.map_cons, unlitL, unlit, unlit_map k f l]
theorem unlit_encL (f : Nat → Int) : unlitL (encL f) = some (litsL f) := by
  unfold encL litsL
  exact unlit_map kindAt f (List.range 20503)
theorem lits_map (k : Nat → IntKind) (f : Nat → Int) : ∀ l : List Nat, (∀ i ∈ l, Fits (k i) (f i)) → LitsOk (l.map fun i => .int (k i)) (l.map fun i => .int (k i) (f i))
  | [], _ => trivial
  | i :: l, h => ⟨⟨rfl, h i (List.mem_cons_self ..)⟩, lits_map k f l (fun j hj => h j (List.mem_cons_of_mem _ hj))⟩
theorem lits_ok (f : Nat → Int) (h : Wf f) : LitsFit kinds87 (litsL f) := by
  refine ⟨?_⟩
  have h1 : ∀ i ∈ List.range 20503, Fits (kindAt i) (f i) := fun i hi => h i (List.mem_range.1 hi)
  unfold kinds87 litsL
  generalize List.range 20503 = l at h1 ⊢
  exact lits_map kindAt f l h1
theorem same_gen (k : Nat → IntKind) (f g : Nat → Int) : ∀ l : List Nat, eqLits (l.map fun i => .int (k i) (f i)) (l.map fun i => .int (k i) (g i)) = true ↔ ∀ i ∈ l, f i = g i
  | [] => by simp [eqLits]
  | i :: l => by
    simp only [List.map_cons, eqLits, Bool.and_eq_true, same_gen k f g l, litBeq, decide_true, Bool.true_and, decide_eq_true_eq, List.mem_cons, forall_eq_or_imp]
theorem same_iff (f g : Nat → Int) : same f g = true ↔ ∀ i, i < 20503 → f i = g i := by
  have e : (∀ i, i < 20503 → f i = g i) ↔ ∀ i ∈ List.range 20503, f i = g i := by simp only [List.mem_range]
  rw [e]
  unfold same litsL
  generalize List.range 20503 = l
  exact same_gen kindAt f g l
theorem same_self (f : Nat → Int) : same f f = true := (same_iff f f).2 fun _ _ => rfl
def setCensus (f : Nat → Int) (a b c d e : Int) : Nat → Int := setCnUnt (setCnSpent (setCnFree (setCnLive (setCnNil f a) b) c) d) e
theorem setL_cons (l : List Value) (o : Nat) (v : Value) (vs : List Value) (h : o + 1 + vs.length ≤ l.length) : setL l o (v :: vs) = setL (setL l o [v]) (o + 1) vs := by
  unfold setL
  simp only [List.length_cons, List.length_nil, Nat.zero_add]
  have e1 : (List.take o l ++ [v] ++ List.drop (o + 1) l).take (o + 1) = List.take o l ++ [v] := by
    rw [List.take_append_of_le_length (by simp; omega), List.take_of_length_le (by simp; omega)]
  have e2 : (List.take o l ++ [v] ++ List.drop (o + 1) l).drop (o + 1 + vs.length) = List.drop (o + 1 + vs.length) l := by
    rw [List.drop_append, List.drop_eq_nil_of_le (by simp; omega), List.nil_append, List.drop_drop]
    congr 1; simp; omega
  rw [e1, e2, show o + (vs.length + 1) = o + 1 + vs.length by omega]
  simp
def updN (f : Nat → Int) (o : Nat) : List Int → (Nat → Int)
  | [] => f
  | v :: vs => updN (upd f o v) (o + 1) vs
theorem encL_setN (k : IntKind) : ∀ (vs : List Int) (f : Nat → Int) (o : Nat), o + vs.length ≤ 20503 → (∀ i, i < vs.length → kindAt (o + i) = k) → setL (encL f) o (vs.map (Value.int k)) = encL (updN f o vs)
  | [], f, o, h, _ => by unfold setL updN; simp
  | v :: vs, f, o, h, hk => by
    simp only [List.length_cons] at h hk
    rw [List.map_cons, setL_cons _ _ _ _ (by rw [encL_length, List.length_map]; omega), encL_set f o k v (by omega) (hk 0 (by omega)), encL_setN k vs (upd f o v) (o + 1) (by omega) (fun i hi => by rw [show o + 1 + i = o + (i + 1) by omega]; exact hk (i + 1) (by omega))]
    rfl
theorem st_census (f : Nat → Int) (a b c d e : Int) : setL (encL f) (0 + 20498) [.int .i64 a, .int .i64 b, .int .i64 c, .int .i64 d, .int .i64 e] = encL (setCensus f a b c d e) :=
  encL_setN .i64 [a, b, c, d, e] f (0 + 20498) (by simp) (fun i hi => by
    simp only [List.length_cons, List.length_nil] at hi
    unfold kindAt; repeat (first | rw [if_pos (by omega)] | rw [if_neg (by omega)]))

theorem word_setWord (f : Nat → Int) (i j : Nat) (x : Int) : word (setWord f i x) j = if j = i then x else word f j := by
  unfold word setWord upd; by_cases h : j = i
  · subst h; simp
  · first | rw [if_neg (by omega), if_neg h] | rw [if_neg h]
theorem word_setGen (f : Nat → Int) (i j : Nat) (x : Int) (h1 : j < 4096) (h2 : i < 4096) : word (setGen f i x) j = word f j := by
  unfold word setGen upd; rw [if_neg (by omega)]
theorem word_setNxt (f : Nat → Int) (i j : Nat) (x : Int) (h1 : j < 4096) (h2 : i < 4096) : word (setNxt f i x) j = word f j := by
  unfold word setNxt upd; rw [if_neg (by omega)]
theorem word_setSz (f : Nat → Int) (i j : Nat) (x : Int) (h1 : j < 4096) (h2 : i < 4096) : word (setSz f i x) j = word f j := by
  unfold word setSz upd; rw [if_neg (by omega)]
theorem word_setRole (f : Nat → Int) (i j : Nat) (x : Int) (h1 : j < 4096) (h2 : i < 4096) : word (setRole f i x) j = word f j := by
  unfold word setRole upd; rw [if_neg (by omega)]
theorem word_setLst (f : Nat → Int) (i j : Nat) (x : Int) (h1 : j < 4096) (h2 : i < 16) : word (setLst f i x) j = word f j := by
  unfold word setLst upd; rw [if_neg (by omega)]
theorem word_setFresh (f : Nat → Int) (j : Nat) (x : Int) (h1 : j < 4096) : word (setFresh f x) j = word f j := by
  unfold word setFresh upd; rw [if_neg (by omega)]
theorem word_setBoot (f : Nat → Int) (j : Nat) (x : Int) (h1 : j < 4096) : word (setBoot f x) j = word f j := by
  unfold word setBoot upd; rw [if_neg (by omega)]
theorem word_setCnNil (f : Nat → Int) (j : Nat) (x : Int) (h1 : j < 4096) : word (setCnNil f x) j = word f j := by
  unfold word setCnNil upd; rw [if_neg (by omega)]
theorem word_setCnLive (f : Nat → Int) (j : Nat) (x : Int) (h1 : j < 4096) : word (setCnLive f x) j = word f j := by
  unfold word setCnLive upd; rw [if_neg (by omega)]
theorem word_setCnFree (f : Nat → Int) (j : Nat) (x : Int) (h1 : j < 4096) : word (setCnFree f x) j = word f j := by
  unfold word setCnFree upd; rw [if_neg (by omega)]
theorem word_setCnSpent (f : Nat → Int) (j : Nat) (x : Int) (h1 : j < 4096) : word (setCnSpent f x) j = word f j := by
  unfold word setCnSpent upd; rw [if_neg (by omega)]
theorem word_setCnUnt (f : Nat → Int) (j : Nat) (x : Int) (h1 : j < 4096) : word (setCnUnt f x) j = word f j := by
  unfold word setCnUnt upd; rw [if_neg (by omega)]
theorem gen_setWord (f : Nat → Int) (i j : Nat) (x : Int) (h1 : j < 4096) (h2 : i < 4096) : gen (setWord f i x) j = gen f j := by
  unfold gen setWord upd; rw [if_neg (by omega)]
theorem gen_setGen (f : Nat → Int) (i j : Nat) (x : Int) : gen (setGen f i x) j = if j = i then x else gen f j := by
  unfold gen setGen upd; by_cases h : j = i
  · subst h; simp
  · first | rw [if_neg (by omega), if_neg h] | rw [if_neg h]
theorem gen_setNxt (f : Nat → Int) (i j : Nat) (x : Int) (h1 : j < 4096) (h2 : i < 4096) : gen (setNxt f i x) j = gen f j := by
  unfold gen setNxt upd; rw [if_neg (by omega)]
theorem gen_setSz (f : Nat → Int) (i j : Nat) (x : Int) (h1 : j < 4096) (h2 : i < 4096) : gen (setSz f i x) j = gen f j := by
  unfold gen setSz upd; rw [if_neg (by omega)]
theorem gen_setRole (f : Nat → Int) (i j : Nat) (x : Int) (h1 : j < 4096) (h2 : i < 4096) : gen (setRole f i x) j = gen f j := by
  unfold gen setRole upd; rw [if_neg (by omega)]
theorem gen_setLst (f : Nat → Int) (i j : Nat) (x : Int) (h1 : j < 4096) (h2 : i < 16) : gen (setLst f i x) j = gen f j := by
  unfold gen setLst upd; rw [if_neg (by omega)]
theorem gen_setFresh (f : Nat → Int) (j : Nat) (x : Int) (h1 : j < 4096) : gen (setFresh f x) j = gen f j := by
  unfold gen setFresh upd; rw [if_neg (by omega)]
theorem gen_setBoot (f : Nat → Int) (j : Nat) (x : Int) (h1 : j < 4096) : gen (setBoot f x) j = gen f j := by
  unfold gen setBoot upd; rw [if_neg (by omega)]
theorem gen_setCnNil (f : Nat → Int) (j : Nat) (x : Int) (h1 : j < 4096) : gen (setCnNil f x) j = gen f j := by
  unfold gen setCnNil upd; rw [if_neg (by omega)]
theorem gen_setCnLive (f : Nat → Int) (j : Nat) (x : Int) (h1 : j < 4096) : gen (setCnLive f x) j = gen f j := by
  unfold gen setCnLive upd; rw [if_neg (by omega)]
theorem gen_setCnFree (f : Nat → Int) (j : Nat) (x : Int) (h1 : j < 4096) : gen (setCnFree f x) j = gen f j := by
  unfold gen setCnFree upd; rw [if_neg (by omega)]
theorem gen_setCnSpent (f : Nat → Int) (j : Nat) (x : Int) (h1 : j < 4096) : gen (setCnSpent f x) j = gen f j := by
  unfold gen setCnSpent upd; rw [if_neg (by omega)]
theorem gen_setCnUnt (f : Nat → Int) (j : Nat) (x : Int) (h1 : j < 4096) : gen (setCnUnt f x) j = gen f j := by
  unfold gen setCnUnt upd; rw [if_neg (by omega)]
theorem nxt_setWord (f : Nat → Int) (i j : Nat) (x : Int) (h1 : j < 4096) (h2 : i < 4096) : nxt (setWord f i x) j = nxt f j := by
  unfold nxt setWord upd; rw [if_neg (by omega)]
theorem nxt_setGen (f : Nat → Int) (i j : Nat) (x : Int) (h1 : j < 4096) (h2 : i < 4096) : nxt (setGen f i x) j = nxt f j := by
  unfold nxt setGen upd; rw [if_neg (by omega)]
theorem nxt_setNxt (f : Nat → Int) (i j : Nat) (x : Int) : nxt (setNxt f i x) j = if j = i then x else nxt f j := by
  unfold nxt setNxt upd; by_cases h : j = i
  · subst h; simp
  · first | rw [if_neg (by omega), if_neg h] | rw [if_neg h]
theorem nxt_setSz (f : Nat → Int) (i j : Nat) (x : Int) (h1 : j < 4096) (h2 : i < 4096) : nxt (setSz f i x) j = nxt f j := by
  unfold nxt setSz upd; rw [if_neg (by omega)]
theorem nxt_setRole (f : Nat → Int) (i j : Nat) (x : Int) (h1 : j < 4096) (h2 : i < 4096) : nxt (setRole f i x) j = nxt f j := by
  unfold nxt setRole upd; rw [if_neg (by omega)]
theorem nxt_setLst (f : Nat → Int) (i j : Nat) (x : Int) (h1 : j < 4096) (h2 : i < 16) : nxt (setLst f i x) j = nxt f j := by
  unfold nxt setLst upd; rw [if_neg (by omega)]
theorem nxt_setFresh (f : Nat → Int) (j : Nat) (x : Int) (h1 : j < 4096) : nxt (setFresh f x) j = nxt f j := by
  unfold nxt setFresh upd; rw [if_neg (by omega)]
theorem nxt_setBoot (f : Nat → Int) (j : Nat) (x : Int) (h1 : j < 4096) : nxt (setBoot f x) j = nxt f j := by
  unfold nxt setBoot upd; rw [if_neg (by omega)]
theorem nxt_setCnNil (f : Nat → Int) (j : Nat) (x : Int) (h1 : j < 4096) : nxt (setCnNil f x) j = nxt f j := by
  unfold nxt setCnNil upd; rw [if_neg (by omega)]
theorem nxt_setCnLive (f : Nat → Int) (j : Nat) (x : Int) (h1 : j < 4096) : nxt (setCnLive f x) j = nxt f j := by
  unfold nxt setCnLive upd; rw [if_neg (by omega)]
theorem nxt_setCnFree (f : Nat → Int) (j : Nat) (x : Int) (h1 : j < 4096) : nxt (setCnFree f x) j = nxt f j := by
  unfold nxt setCnFree upd; rw [if_neg (by omega)]
theorem nxt_setCnSpent (f : Nat → Int) (j : Nat) (x : Int) (h1 : j < 4096) : nxt (setCnSpent f x) j = nxt f j := by
  unfold nxt setCnSpent upd; rw [if_neg (by omega)]
theorem nxt_setCnUnt (f : Nat → Int) (j : Nat) (x : Int) (h1 : j < 4096) : nxt (setCnUnt f x) j = nxt f j := by
  unfold nxt setCnUnt upd; rw [if_neg (by omega)]
theorem sz_setWord (f : Nat → Int) (i j : Nat) (x : Int) (h1 : j < 4096) (h2 : i < 4096) : sz (setWord f i x) j = sz f j := by
  unfold sz setWord upd; rw [if_neg (by omega)]
theorem sz_setGen (f : Nat → Int) (i j : Nat) (x : Int) (h1 : j < 4096) (h2 : i < 4096) : sz (setGen f i x) j = sz f j := by
  unfold sz setGen upd; rw [if_neg (by omega)]
theorem sz_setNxt (f : Nat → Int) (i j : Nat) (x : Int) (h1 : j < 4096) (h2 : i < 4096) : sz (setNxt f i x) j = sz f j := by
  unfold sz setNxt upd; rw [if_neg (by omega)]
theorem sz_setSz (f : Nat → Int) (i j : Nat) (x : Int) : sz (setSz f i x) j = if j = i then x else sz f j := by
  unfold sz setSz upd; by_cases h : j = i
  · subst h; simp
  · first | rw [if_neg (by omega), if_neg h] | rw [if_neg h]
theorem sz_setRole (f : Nat → Int) (i j : Nat) (x : Int) (h1 : j < 4096) (h2 : i < 4096) : sz (setRole f i x) j = sz f j := by
  unfold sz setRole upd; rw [if_neg (by omega)]
theorem sz_setLst (f : Nat → Int) (i j : Nat) (x : Int) (h1 : j < 4096) (h2 : i < 16) : sz (setLst f i x) j = sz f j := by
  unfold sz setLst upd; rw [if_neg (by omega)]
theorem sz_setFresh (f : Nat → Int) (j : Nat) (x : Int) (h1 : j < 4096) : sz (setFresh f x) j = sz f j := by
  unfold sz setFresh upd; rw [if_neg (by omega)]
theorem sz_setBoot (f : Nat → Int) (j : Nat) (x : Int) (h1 : j < 4096) : sz (setBoot f x) j = sz f j := by
  unfold sz setBoot upd; rw [if_neg (by omega)]
theorem sz_setCnNil (f : Nat → Int) (j : Nat) (x : Int) (h1 : j < 4096) : sz (setCnNil f x) j = sz f j := by
  unfold sz setCnNil upd; rw [if_neg (by omega)]
theorem sz_setCnLive (f : Nat → Int) (j : Nat) (x : Int) (h1 : j < 4096) : sz (setCnLive f x) j = sz f j := by
  unfold sz setCnLive upd; rw [if_neg (by omega)]
theorem sz_setCnFree (f : Nat → Int) (j : Nat) (x : Int) (h1 : j < 4096) : sz (setCnFree f x) j = sz f j := by
  unfold sz setCnFree upd; rw [if_neg (by omega)]
theorem sz_setCnSpent (f : Nat → Int) (j : Nat) (x : Int) (h1 : j < 4096) : sz (setCnSpent f x) j = sz f j := by
  unfold sz setCnSpent upd; rw [if_neg (by omega)]
theorem sz_setCnUnt (f : Nat → Int) (j : Nat) (x : Int) (h1 : j < 4096) : sz (setCnUnt f x) j = sz f j := by
  unfold sz setCnUnt upd; rw [if_neg (by omega)]
theorem role_setWord (f : Nat → Int) (i j : Nat) (x : Int) (h1 : j < 4096) (h2 : i < 4096) : role (setWord f i x) j = role f j := by
  unfold role setWord upd; rw [if_neg (by omega)]
theorem role_setGen (f : Nat → Int) (i j : Nat) (x : Int) (h1 : j < 4096) (h2 : i < 4096) : role (setGen f i x) j = role f j := by
  unfold role setGen upd; rw [if_neg (by omega)]
theorem role_setNxt (f : Nat → Int) (i j : Nat) (x : Int) (h1 : j < 4096) (h2 : i < 4096) : role (setNxt f i x) j = role f j := by
  unfold role setNxt upd; rw [if_neg (by omega)]
theorem role_setSz (f : Nat → Int) (i j : Nat) (x : Int) (h1 : j < 4096) (h2 : i < 4096) : role (setSz f i x) j = role f j := by
  unfold role setSz upd; rw [if_neg (by omega)]
theorem role_setRole (f : Nat → Int) (i j : Nat) (x : Int) : role (setRole f i x) j = if j = i then x else role f j := by
  unfold role setRole upd; by_cases h : j = i
  · subst h; simp
  · first | rw [if_neg (by omega), if_neg h] | rw [if_neg h]
theorem role_setLst (f : Nat → Int) (i j : Nat) (x : Int) (h1 : j < 4096) (h2 : i < 16) : role (setLst f i x) j = role f j := by
  unfold role setLst upd; rw [if_neg (by omega)]
theorem role_setFresh (f : Nat → Int) (j : Nat) (x : Int) (h1 : j < 4096) : role (setFresh f x) j = role f j := by
  unfold role setFresh upd; rw [if_neg (by omega)]
theorem role_setBoot (f : Nat → Int) (j : Nat) (x : Int) (h1 : j < 4096) : role (setBoot f x) j = role f j := by
  unfold role setBoot upd; rw [if_neg (by omega)]
theorem role_setCnNil (f : Nat → Int) (j : Nat) (x : Int) (h1 : j < 4096) : role (setCnNil f x) j = role f j := by
  unfold role setCnNil upd; rw [if_neg (by omega)]
theorem role_setCnLive (f : Nat → Int) (j : Nat) (x : Int) (h1 : j < 4096) : role (setCnLive f x) j = role f j := by
  unfold role setCnLive upd; rw [if_neg (by omega)]
theorem role_setCnFree (f : Nat → Int) (j : Nat) (x : Int) (h1 : j < 4096) : role (setCnFree f x) j = role f j := by
  unfold role setCnFree upd; rw [if_neg (by omega)]
theorem role_setCnSpent (f : Nat → Int) (j : Nat) (x : Int) (h1 : j < 4096) : role (setCnSpent f x) j = role f j := by
  unfold role setCnSpent upd; rw [if_neg (by omega)]
theorem role_setCnUnt (f : Nat → Int) (j : Nat) (x : Int) (h1 : j < 4096) : role (setCnUnt f x) j = role f j := by
  unfold role setCnUnt upd; rw [if_neg (by omega)]
theorem lst_setWord (f : Nat → Int) (i j : Nat) (x : Int) (h1 : j < 16) (h2 : i < 4096) : lst (setWord f i x) j = lst f j := by
  unfold lst setWord upd; rw [if_neg (by omega)]
theorem lst_setGen (f : Nat → Int) (i j : Nat) (x : Int) (h1 : j < 16) (h2 : i < 4096) : lst (setGen f i x) j = lst f j := by
  unfold lst setGen upd; rw [if_neg (by omega)]
theorem lst_setNxt (f : Nat → Int) (i j : Nat) (x : Int) (h1 : j < 16) (h2 : i < 4096) : lst (setNxt f i x) j = lst f j := by
  unfold lst setNxt upd; rw [if_neg (by omega)]
theorem lst_setSz (f : Nat → Int) (i j : Nat) (x : Int) (h1 : j < 16) (h2 : i < 4096) : lst (setSz f i x) j = lst f j := by
  unfold lst setSz upd; rw [if_neg (by omega)]
theorem lst_setRole (f : Nat → Int) (i j : Nat) (x : Int) (h1 : j < 16) (h2 : i < 4096) : lst (setRole f i x) j = lst f j := by
  unfold lst setRole upd; rw [if_neg (by omega)]
theorem lst_setLst (f : Nat → Int) (i j : Nat) (x : Int) : lst (setLst f i x) j = if j = i then x else lst f j := by
  unfold lst setLst upd; by_cases h : j = i
  · subst h; simp
  · first | rw [if_neg (by omega), if_neg h] | rw [if_neg h]
theorem lst_setFresh (f : Nat → Int) (j : Nat) (x : Int) (h1 : j < 16) : lst (setFresh f x) j = lst f j := by
  unfold lst setFresh upd; rw [if_neg (by omega)]
theorem lst_setBoot (f : Nat → Int) (j : Nat) (x : Int) (h1 : j < 16) : lst (setBoot f x) j = lst f j := by
  unfold lst setBoot upd; rw [if_neg (by omega)]
theorem lst_setCnNil (f : Nat → Int) (j : Nat) (x : Int) (h1 : j < 16) : lst (setCnNil f x) j = lst f j := by
  unfold lst setCnNil upd; rw [if_neg (by omega)]
theorem lst_setCnLive (f : Nat → Int) (j : Nat) (x : Int) (h1 : j < 16) : lst (setCnLive f x) j = lst f j := by
  unfold lst setCnLive upd; rw [if_neg (by omega)]
theorem lst_setCnFree (f : Nat → Int) (j : Nat) (x : Int) (h1 : j < 16) : lst (setCnFree f x) j = lst f j := by
  unfold lst setCnFree upd; rw [if_neg (by omega)]
theorem lst_setCnSpent (f : Nat → Int) (j : Nat) (x : Int) (h1 : j < 16) : lst (setCnSpent f x) j = lst f j := by
  unfold lst setCnSpent upd; rw [if_neg (by omega)]
theorem lst_setCnUnt (f : Nat → Int) (j : Nat) (x : Int) (h1 : j < 16) : lst (setCnUnt f x) j = lst f j := by
  unfold lst setCnUnt upd; rw [if_neg (by omega)]
theorem fresh_setWord (f : Nat → Int) (i : Nat) (x : Int) (h : i < 4096) : fresh (setWord f i x) = fresh f := by
  unfold fresh setWord upd; rw [if_neg (by omega)]
theorem fresh_setGen (f : Nat → Int) (i : Nat) (x : Int) (h : i < 4096) : fresh (setGen f i x) = fresh f := by
  unfold fresh setGen upd; rw [if_neg (by omega)]
theorem fresh_setNxt (f : Nat → Int) (i : Nat) (x : Int) (h : i < 4096) : fresh (setNxt f i x) = fresh f := by
  unfold fresh setNxt upd; rw [if_neg (by omega)]
theorem fresh_setSz (f : Nat → Int) (i : Nat) (x : Int) (h : i < 4096) : fresh (setSz f i x) = fresh f := by
  unfold fresh setSz upd; rw [if_neg (by omega)]
theorem fresh_setRole (f : Nat → Int) (i : Nat) (x : Int) (h : i < 4096) : fresh (setRole f i x) = fresh f := by
  unfold fresh setRole upd; rw [if_neg (by omega)]
theorem fresh_setLst (f : Nat → Int) (i : Nat) (x : Int) (h : i < 16) : fresh (setLst f i x) = fresh f := by
  unfold fresh setLst upd; rw [if_neg (by omega)]
theorem fresh_setFresh (f : Nat → Int) (x : Int) : fresh (setFresh f x) = x := by
  unfold fresh setFresh upd; simp
theorem fresh_setBoot (f : Nat → Int) (x : Int) : fresh (setBoot f x) = fresh f := by
  unfold fresh setBoot upd; rw [if_neg (by omega)]
theorem fresh_setCnNil (f : Nat → Int) (x : Int) : fresh (setCnNil f x) = fresh f := by
  unfold fresh setCnNil upd; rw [if_neg (by omega)]
theorem fresh_setCnLive (f : Nat → Int) (x : Int) : fresh (setCnLive f x) = fresh f := by
  unfold fresh setCnLive upd; rw [if_neg (by omega)]
theorem fresh_setCnFree (f : Nat → Int) (x : Int) : fresh (setCnFree f x) = fresh f := by
  unfold fresh setCnFree upd; rw [if_neg (by omega)]
theorem fresh_setCnSpent (f : Nat → Int) (x : Int) : fresh (setCnSpent f x) = fresh f := by
  unfold fresh setCnSpent upd; rw [if_neg (by omega)]
theorem fresh_setCnUnt (f : Nat → Int) (x : Int) : fresh (setCnUnt f x) = fresh f := by
  unfold fresh setCnUnt upd; rw [if_neg (by omega)]
theorem boot_setWord (f : Nat → Int) (i : Nat) (x : Int) (h : i < 4096) : boot (setWord f i x) = boot f := by
  unfold boot setWord upd; rw [if_neg (by omega)]
theorem boot_setGen (f : Nat → Int) (i : Nat) (x : Int) (h : i < 4096) : boot (setGen f i x) = boot f := by
  unfold boot setGen upd; rw [if_neg (by omega)]
theorem boot_setNxt (f : Nat → Int) (i : Nat) (x : Int) (h : i < 4096) : boot (setNxt f i x) = boot f := by
  unfold boot setNxt upd; rw [if_neg (by omega)]
theorem boot_setSz (f : Nat → Int) (i : Nat) (x : Int) (h : i < 4096) : boot (setSz f i x) = boot f := by
  unfold boot setSz upd; rw [if_neg (by omega)]
theorem boot_setRole (f : Nat → Int) (i : Nat) (x : Int) (h : i < 4096) : boot (setRole f i x) = boot f := by
  unfold boot setRole upd; rw [if_neg (by omega)]
theorem boot_setLst (f : Nat → Int) (i : Nat) (x : Int) (h : i < 16) : boot (setLst f i x) = boot f := by
  unfold boot setLst upd; rw [if_neg (by omega)]
theorem boot_setFresh (f : Nat → Int) (x : Int) : boot (setFresh f x) = boot f := by
  unfold boot setFresh upd; rw [if_neg (by omega)]
theorem boot_setBoot (f : Nat → Int) (x : Int) : boot (setBoot f x) = x := by
  unfold boot setBoot upd; simp
theorem boot_setCnNil (f : Nat → Int) (x : Int) : boot (setCnNil f x) = boot f := by
  unfold boot setCnNil upd; rw [if_neg (by omega)]
theorem boot_setCnLive (f : Nat → Int) (x : Int) : boot (setCnLive f x) = boot f := by
  unfold boot setCnLive upd; rw [if_neg (by omega)]
theorem boot_setCnFree (f : Nat → Int) (x : Int) : boot (setCnFree f x) = boot f := by
  unfold boot setCnFree upd; rw [if_neg (by omega)]
theorem boot_setCnSpent (f : Nat → Int) (x : Int) : boot (setCnSpent f x) = boot f := by
  unfold boot setCnSpent upd; rw [if_neg (by omega)]
theorem boot_setCnUnt (f : Nat → Int) (x : Int) : boot (setCnUnt f x) = boot f := by
  unfold boot setCnUnt upd; rw [if_neg (by omega)]
theorem cnNil_setWord (f : Nat → Int) (i : Nat) (x : Int) (h : i < 4096) : cnNil (setWord f i x) = cnNil f := by
  unfold cnNil setWord upd; rw [if_neg (by omega)]
theorem cnNil_setGen (f : Nat → Int) (i : Nat) (x : Int) (h : i < 4096) : cnNil (setGen f i x) = cnNil f := by
  unfold cnNil setGen upd; rw [if_neg (by omega)]
theorem cnNil_setNxt (f : Nat → Int) (i : Nat) (x : Int) (h : i < 4096) : cnNil (setNxt f i x) = cnNil f := by
  unfold cnNil setNxt upd; rw [if_neg (by omega)]
theorem cnNil_setSz (f : Nat → Int) (i : Nat) (x : Int) (h : i < 4096) : cnNil (setSz f i x) = cnNil f := by
  unfold cnNil setSz upd; rw [if_neg (by omega)]
theorem cnNil_setRole (f : Nat → Int) (i : Nat) (x : Int) (h : i < 4096) : cnNil (setRole f i x) = cnNil f := by
  unfold cnNil setRole upd; rw [if_neg (by omega)]
theorem cnNil_setLst (f : Nat → Int) (i : Nat) (x : Int) (h : i < 16) : cnNil (setLst f i x) = cnNil f := by
  unfold cnNil setLst upd; rw [if_neg (by omega)]
theorem cnNil_setFresh (f : Nat → Int) (x : Int) : cnNil (setFresh f x) = cnNil f := by
  unfold cnNil setFresh upd; rw [if_neg (by omega)]
theorem cnNil_setBoot (f : Nat → Int) (x : Int) : cnNil (setBoot f x) = cnNil f := by
  unfold cnNil setBoot upd; rw [if_neg (by omega)]
theorem cnNil_setCnNil (f : Nat → Int) (x : Int) : cnNil (setCnNil f x) = x := by
  unfold cnNil setCnNil upd; simp
theorem cnNil_setCnLive (f : Nat → Int) (x : Int) : cnNil (setCnLive f x) = cnNil f := by
  unfold cnNil setCnLive upd; rw [if_neg (by omega)]
theorem cnNil_setCnFree (f : Nat → Int) (x : Int) : cnNil (setCnFree f x) = cnNil f := by
  unfold cnNil setCnFree upd; rw [if_neg (by omega)]
theorem cnNil_setCnSpent (f : Nat → Int) (x : Int) : cnNil (setCnSpent f x) = cnNil f := by
  unfold cnNil setCnSpent upd; rw [if_neg (by omega)]
theorem cnNil_setCnUnt (f : Nat → Int) (x : Int) : cnNil (setCnUnt f x) = cnNil f := by
  unfold cnNil setCnUnt upd; rw [if_neg (by omega)]
theorem cnLive_setWord (f : Nat → Int) (i : Nat) (x : Int) (h : i < 4096) : cnLive (setWord f i x) = cnLive f := by
  unfold cnLive setWord upd; rw [if_neg (by omega)]
theorem cnLive_setGen (f : Nat → Int) (i : Nat) (x : Int) (h : i < 4096) : cnLive (setGen f i x) = cnLive f := by
  unfold cnLive setGen upd; rw [if_neg (by omega)]
theorem cnLive_setNxt (f : Nat → Int) (i : Nat) (x : Int) (h : i < 4096) : cnLive (setNxt f i x) = cnLive f := by
  unfold cnLive setNxt upd; rw [if_neg (by omega)]
theorem cnLive_setSz (f : Nat → Int) (i : Nat) (x : Int) (h : i < 4096) : cnLive (setSz f i x) = cnLive f := by
  unfold cnLive setSz upd; rw [if_neg (by omega)]
theorem cnLive_setRole (f : Nat → Int) (i : Nat) (x : Int) (h : i < 4096) : cnLive (setRole f i x) = cnLive f := by
  unfold cnLive setRole upd; rw [if_neg (by omega)]
theorem cnLive_setLst (f : Nat → Int) (i : Nat) (x : Int) (h : i < 16) : cnLive (setLst f i x) = cnLive f := by
  unfold cnLive setLst upd; rw [if_neg (by omega)]
theorem cnLive_setFresh (f : Nat → Int) (x : Int) : cnLive (setFresh f x) = cnLive f := by
  unfold cnLive setFresh upd; rw [if_neg (by omega)]
theorem cnLive_setBoot (f : Nat → Int) (x : Int) : cnLive (setBoot f x) = cnLive f := by
  unfold cnLive setBoot upd; rw [if_neg (by omega)]
theorem cnLive_setCnNil (f : Nat → Int) (x : Int) : cnLive (setCnNil f x) = cnLive f := by
  unfold cnLive setCnNil upd; rw [if_neg (by omega)]
theorem cnLive_setCnLive (f : Nat → Int) (x : Int) : cnLive (setCnLive f x) = x := by
  unfold cnLive setCnLive upd; simp
theorem cnLive_setCnFree (f : Nat → Int) (x : Int) : cnLive (setCnFree f x) = cnLive f := by
  unfold cnLive setCnFree upd; rw [if_neg (by omega)]
theorem cnLive_setCnSpent (f : Nat → Int) (x : Int) : cnLive (setCnSpent f x) = cnLive f := by
  unfold cnLive setCnSpent upd; rw [if_neg (by omega)]
theorem cnLive_setCnUnt (f : Nat → Int) (x : Int) : cnLive (setCnUnt f x) = cnLive f := by
  unfold cnLive setCnUnt upd; rw [if_neg (by omega)]
theorem cnFree_setWord (f : Nat → Int) (i : Nat) (x : Int) (h : i < 4096) : cnFree (setWord f i x) = cnFree f := by
  unfold cnFree setWord upd; rw [if_neg (by omega)]
theorem cnFree_setGen (f : Nat → Int) (i : Nat) (x : Int) (h : i < 4096) : cnFree (setGen f i x) = cnFree f := by
  unfold cnFree setGen upd; rw [if_neg (by omega)]
theorem cnFree_setNxt (f : Nat → Int) (i : Nat) (x : Int) (h : i < 4096) : cnFree (setNxt f i x) = cnFree f := by
  unfold cnFree setNxt upd; rw [if_neg (by omega)]
theorem cnFree_setSz (f : Nat → Int) (i : Nat) (x : Int) (h : i < 4096) : cnFree (setSz f i x) = cnFree f := by
  unfold cnFree setSz upd; rw [if_neg (by omega)]
theorem cnFree_setRole (f : Nat → Int) (i : Nat) (x : Int) (h : i < 4096) : cnFree (setRole f i x) = cnFree f := by
  unfold cnFree setRole upd; rw [if_neg (by omega)]
theorem cnFree_setLst (f : Nat → Int) (i : Nat) (x : Int) (h : i < 16) : cnFree (setLst f i x) = cnFree f := by
  unfold cnFree setLst upd; rw [if_neg (by omega)]
theorem cnFree_setFresh (f : Nat → Int) (x : Int) : cnFree (setFresh f x) = cnFree f := by
  unfold cnFree setFresh upd; rw [if_neg (by omega)]
theorem cnFree_setBoot (f : Nat → Int) (x : Int) : cnFree (setBoot f x) = cnFree f := by
  unfold cnFree setBoot upd; rw [if_neg (by omega)]
theorem cnFree_setCnNil (f : Nat → Int) (x : Int) : cnFree (setCnNil f x) = cnFree f := by
  unfold cnFree setCnNil upd; rw [if_neg (by omega)]
theorem cnFree_setCnLive (f : Nat → Int) (x : Int) : cnFree (setCnLive f x) = cnFree f := by
  unfold cnFree setCnLive upd; rw [if_neg (by omega)]
theorem cnFree_setCnFree (f : Nat → Int) (x : Int) : cnFree (setCnFree f x) = x := by
  unfold cnFree setCnFree upd; simp
theorem cnFree_setCnSpent (f : Nat → Int) (x : Int) : cnFree (setCnSpent f x) = cnFree f := by
  unfold cnFree setCnSpent upd; rw [if_neg (by omega)]
theorem cnFree_setCnUnt (f : Nat → Int) (x : Int) : cnFree (setCnUnt f x) = cnFree f := by
  unfold cnFree setCnUnt upd; rw [if_neg (by omega)]
theorem cnSpent_setWord (f : Nat → Int) (i : Nat) (x : Int) (h : i < 4096) : cnSpent (setWord f i x) = cnSpent f := by
  unfold cnSpent setWord upd; rw [if_neg (by omega)]
theorem cnSpent_setGen (f : Nat → Int) (i : Nat) (x : Int) (h : i < 4096) : cnSpent (setGen f i x) = cnSpent f := by
  unfold cnSpent setGen upd; rw [if_neg (by omega)]
theorem cnSpent_setNxt (f : Nat → Int) (i : Nat) (x : Int) (h : i < 4096) : cnSpent (setNxt f i x) = cnSpent f := by
  unfold cnSpent setNxt upd; rw [if_neg (by omega)]
theorem cnSpent_setSz (f : Nat → Int) (i : Nat) (x : Int) (h : i < 4096) : cnSpent (setSz f i x) = cnSpent f := by
  unfold cnSpent setSz upd; rw [if_neg (by omega)]
theorem cnSpent_setRole (f : Nat → Int) (i : Nat) (x : Int) (h : i < 4096) : cnSpent (setRole f i x) = cnSpent f := by
  unfold cnSpent setRole upd; rw [if_neg (by omega)]
theorem cnSpent_setLst (f : Nat → Int) (i : Nat) (x : Int) (h : i < 16) : cnSpent (setLst f i x) = cnSpent f := by
  unfold cnSpent setLst upd; rw [if_neg (by omega)]
theorem cnSpent_setFresh (f : Nat → Int) (x : Int) : cnSpent (setFresh f x) = cnSpent f := by
  unfold cnSpent setFresh upd; rw [if_neg (by omega)]
theorem cnSpent_setBoot (f : Nat → Int) (x : Int) : cnSpent (setBoot f x) = cnSpent f := by
  unfold cnSpent setBoot upd; rw [if_neg (by omega)]
theorem cnSpent_setCnNil (f : Nat → Int) (x : Int) : cnSpent (setCnNil f x) = cnSpent f := by
  unfold cnSpent setCnNil upd; rw [if_neg (by omega)]
theorem cnSpent_setCnLive (f : Nat → Int) (x : Int) : cnSpent (setCnLive f x) = cnSpent f := by
  unfold cnSpent setCnLive upd; rw [if_neg (by omega)]
theorem cnSpent_setCnFree (f : Nat → Int) (x : Int) : cnSpent (setCnFree f x) = cnSpent f := by
  unfold cnSpent setCnFree upd; rw [if_neg (by omega)]
theorem cnSpent_setCnSpent (f : Nat → Int) (x : Int) : cnSpent (setCnSpent f x) = x := by
  unfold cnSpent setCnSpent upd; simp
theorem cnSpent_setCnUnt (f : Nat → Int) (x : Int) : cnSpent (setCnUnt f x) = cnSpent f := by
  unfold cnSpent setCnUnt upd; rw [if_neg (by omega)]
theorem cnUnt_setWord (f : Nat → Int) (i : Nat) (x : Int) (h : i < 4096) : cnUnt (setWord f i x) = cnUnt f := by
  unfold cnUnt setWord upd; rw [if_neg (by omega)]
theorem cnUnt_setGen (f : Nat → Int) (i : Nat) (x : Int) (h : i < 4096) : cnUnt (setGen f i x) = cnUnt f := by
  unfold cnUnt setGen upd; rw [if_neg (by omega)]
theorem cnUnt_setNxt (f : Nat → Int) (i : Nat) (x : Int) (h : i < 4096) : cnUnt (setNxt f i x) = cnUnt f := by
  unfold cnUnt setNxt upd; rw [if_neg (by omega)]
theorem cnUnt_setSz (f : Nat → Int) (i : Nat) (x : Int) (h : i < 4096) : cnUnt (setSz f i x) = cnUnt f := by
  unfold cnUnt setSz upd; rw [if_neg (by omega)]
theorem cnUnt_setRole (f : Nat → Int) (i : Nat) (x : Int) (h : i < 4096) : cnUnt (setRole f i x) = cnUnt f := by
  unfold cnUnt setRole upd; rw [if_neg (by omega)]
theorem cnUnt_setLst (f : Nat → Int) (i : Nat) (x : Int) (h : i < 16) : cnUnt (setLst f i x) = cnUnt f := by
  unfold cnUnt setLst upd; rw [if_neg (by omega)]
theorem cnUnt_setFresh (f : Nat → Int) (x : Int) : cnUnt (setFresh f x) = cnUnt f := by
  unfold cnUnt setFresh upd; rw [if_neg (by omega)]
theorem cnUnt_setBoot (f : Nat → Int) (x : Int) : cnUnt (setBoot f x) = cnUnt f := by
  unfold cnUnt setBoot upd; rw [if_neg (by omega)]
theorem cnUnt_setCnNil (f : Nat → Int) (x : Int) : cnUnt (setCnNil f x) = cnUnt f := by
  unfold cnUnt setCnNil upd; rw [if_neg (by omega)]
theorem cnUnt_setCnLive (f : Nat → Int) (x : Int) : cnUnt (setCnLive f x) = cnUnt f := by
  unfold cnUnt setCnLive upd; rw [if_neg (by omega)]
theorem cnUnt_setCnFree (f : Nat → Int) (x : Int) : cnUnt (setCnFree f x) = cnUnt f := by
  unfold cnUnt setCnFree upd; rw [if_neg (by omega)]
theorem cnUnt_setCnSpent (f : Nat → Int) (x : Int) : cnUnt (setCnSpent f x) = cnUnt f := by
  unfold cnUnt setCnSpent upd; rw [if_neg (by omega)]
theorem cnUnt_setCnUnt (f : Nat → Int) (x : Int) : cnUnt (setCnUnt f x) = x := by
  unfold cnUnt setCnUnt upd; simp
end Go.Proofs.Qxb6500913a

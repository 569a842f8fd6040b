import Derived.Test.Qxb6500911aGreatDoorA4
namespace Go.Proofs.Qxb6500911aGreatDoor
open Go.Eng
set_option linter.unusedVariables false
set_option linter.unusedSimpArgs false
theorem zero182 : zeroOk Tryz.prog 182 (.agg #[(.int .i64 0), (.int .i64 0), (.int .i64 0), (.int .i64 0), (.int .i64 0), (.int .i64 0), (.int .i64 0), (.int .i64 0)]) := by unfold zeroOk; kernel_rfl
theorem bld182 : buildOk Tryz.prog 182 [(0, 1), (1, 1), (2, 1), (3, 1), (4, 1), (5, 1), (6, 1), (7, 1)] = true := by kernel_rfl
theorem arrT182 : arrTOk Tryz.prog 182 8 1 3 = true := by kernel_rfl
theorem one3 : oneOk Tryz.prog 3 = true := by kernel_rfl
theorem cal67 : callable Tryz.prog 67 = true := by kernel_rfl
theorem fld111_0 : fieldOk Tryz.prog 111 0 0 = true := by kernel_rfl
theorem arr107 : arrOk Tryz.prog 107 20 16 = true := by kernel_rfl
theorem agg106 : aggOk Tryz.prog 106 16 = true := by kernel_rfl
theorem arrT106 : arrTOk Tryz.prog 106 16 1 3 = true := by kernel_rfl
theorem fld111_1 : fieldOk Tryz.prog 111 1 320 = true := by kernel_rfl
theorem arr109 : arrOk Tryz.prog 109 20 1 = true := by kernel_rfl
theorem one108 : oneOk Tryz.prog 108 = true := by kernel_rfl
theorem agg130 : aggOk Tryz.prog 130 2 = true := by kernel_rfl
theorem fld130_0 : fieldOk Tryz.prog 130 0 0 = true := by kernel_rfl
theorem one57 : oneOk Tryz.prog 57 = true := by kernel_rfl
theorem arr106 : arrOk Tryz.prog 106 16 1 = true := by kernel_rfl
theorem app124 : appOk Tryz.prog 124 68 1 8 = true := by kernel_rfl
theorem zero68 : zeroOk Tryz.prog 68 (.int .i64 0) := by unfold zeroOk; kernel_rfl
theorem zero50 : zeroOk Tryz.prog 50 (.agg #[(.int .u16 0), (.int .u16 0), (.int .u16 0), (.int .u16 0), (.int .u16 0), (.int .u16 0), (.int .u16 0), (.int .u16 0), (.int .u16 0), (.int .u16 0), (.int .u16 0), (.int .u16 0), (.int .u16 0), (.int .u16 0), (.int .u16 0), (.int .u16 0)]) := by unfold zeroOk; kernel_rfl
theorem cal41 : callable Tryz.prog 41 = true := by kernel_rfl
theorem arr50 : arrOk Tryz.prog 50 16 1 = true := by kernel_rfl
theorem one37 : oneOk Tryz.prog 37 = true := by kernel_rfl
theorem agg50 : aggOk Tryz.prog 50 16 = true := by kernel_rfl
/-! ## families of rows; the tables -/
def fam (E : Nat → List (Nat × Obj)) : Nat → List (Nat × Obj)
  | 0 => []
  | n + 1 => fam E n ++ E n
def famX (E : Nat → List (Nat × Obj)) (k : Nat) : Nat → List (Nat × Obj)
  | 0 => []
  | n + 1 => famX E k n ++ (if n = k then [] else E n)
theorem mem_fam {E : Nat → List (Nat × Obj)} {x : Nat × Obj} {k : Nat} : ∀ {n}, k < n → x ∈ E k → x ∈ fam E n
  | 0, h, _ => absurd h (by omega)
  | n + 1, h, hx => by
    rw [fam, List.mem_append]
    by_cases c : k = n
    · subst c; exact .inr hx
    · exact .inl (mem_fam (by omega) hx)
theorem famX_big {E : Nat → List (Nat × Obj)} {k : Nat} : ∀ {n}, n ≤ k → famX E k n = fam E n
  | 0, _ => rfl
  | n + 1, h => by rw [famX, fam, famX_big (by omega), if_neg (by omega)]
theorem fam_perm {E : Nat → List (Nat × Obj)} {k : Nat} : ∀ {n}, k < n → (fam E n).Perm (E k ++ famX E k n)
  | 0, h => absurd h (by omega)
  | n + 1, h => by
    rw [fam, famX]
    by_cases c : n = k
    · subst c
      rw [if_pos rfl, List.append_nil, famX_big (Nat.le_refl _)]
      exact List.perm_append_comm
    · rw [if_neg c, ← List.append_assoc]
      exact (fam_perm (by omega)).append_right _
theorem famX_congr {E E' : Nat → List (Nat × Obj)} {k : Nat} (h : ∀ j, j ≠ k → E j = E' j) : ∀ n, famX E k n = famX E' k n
  | 0 => rfl
  | n + 1 => by
    rw [famX, famX, famX_congr h n]
    by_cases c : n = k
    · rw [if_pos c, if_pos c]
    · rw [if_neg c, if_neg c, h n c]
def updE (E : Nat → List (Nat × Obj)) (k : Nat) (X : List (Nat × Obj)) : Nat → List (Nat × Obj) := fun j => if j = k then X else E j
theorem updE_self (E : Nat → List (Nat × Obj)) (k : Nat) (X : List (Nat × Obj)) : updE E k X k = X := if_pos rfl
theorem updE_ne (E : Nat → List (Nat × Obj)) {k j : Nat} (X : List (Nat × Obj)) (h : j ≠ k) : updE E k X j = E j := if_neg h
theorem fam_upd {E : Nat → List (Nat × Obj)} {k n : Nat} (h : k < n) (X : List (Nat × Obj)) : (fam (updE E k X) n).Perm (X ++ famX E k n) := by
  have := fam_perm (E := updE E k X) h
  rw [updE_self, famX_congr (E' := E) (fun j hj => updE_ne E X hj)] at this
  exact this
structure Tab where
  held : Nat → Nat → Int
  q : Nat → List Rq
structure TabF (tb : Tab) (f : Nat → Value) (E : Nat → List (Nat × Obj)) : Prop where
  held : ∀ r t, r < 20 → t < 16 → f (16 * r + t) = .int .i64 (tb.held r t)
  row : ∀ r, r < 20 → Row (f (320 + r)) (tb.q r).length (fl rqc (tb.q r)) 2 130 (E r)
def tbL (bt : Nat) (f : Nat → Value) (E : Nat → List (Nat × Obj)) : List (Nat × Obj) := (bt, C (arrL 340 f) 111) :: fam E 20
def sumN (f : Nat → Int) : Nat → Int
  | 0 => 0
  | n + 1 => sumN f n + f n
structure HB (h : Nat → Int) (l : List Rq) : Prop where
  nn : ∀ t, t < 16 → 0 ≤ h t
  sum : sumN h 16 ≤ 16
  q : ∀ x, x ∈ l → x.t < 16 ∧ 1 ≤ x.u ∧ x.u ≤ 16
  nd : (l.map (·.t)).Nodup
theorem nodup_len : ∀ (n : Nat) (l : List Nat), l.Nodup → (∀ x, x ∈ l → x < n) → l.length ≤ n
  | 0, l, _, h => by
    cases l with
    | nil => exact Nat.le_refl _
    | cons x l => exact absurd (h x (.head _)) (by omega)
  | n + 1, l, hn, h => by
    by_cases c : n ∈ l
    · have h1 := nodup_len n (l.erase n) (hn.erase n) (fun x hx => by
        have h2 := (List.Nodup.mem_erase_iff hn).1 hx
        have := h x h2.2; have := h2.1; omega)
      rw [List.length_erase_of_mem c] at h1; omega
    · have := nodup_len n l hn (fun x hx => by
        have h2 := h x hx
        have h3 : x ≠ n := fun e => c (e ▸ hx)
        omega)
      omega
theorem HB.len {h : Nat → Int} {l : List Rq} (hb : HB h l) : l.length ≤ 16 := by
  have := nodup_len 16 (l.map (·.t)) hb.nd (fun x hx => by
    obtain ⟨y, hy, rfl⟩ := List.mem_map.1 hx
    exact (hb.q y hy).1)
  rwa [List.length_map] at this
theorem le_sum {f : Nat → Int} {i : Nat} : ∀ {n : Nat}, (∀ j, j < n → 0 ≤ f j) → i < n → f i ≤ sumN f n ∧ 0 ≤ sumN f n
  | 0, _, h => absurd h (by omega)
  | n + 1, h, hi => by
    have h0 := h n (by omega)
    have hs : 0 ≤ sumN f n := by
      clear hi
      have : ∀ m, m ≤ n → 0 ≤ sumN f m := by
        intro m
        induction m with
        | zero => intro _; exact Int.le_refl _
        | succ m ih => intro hm; have := ih (by omega); have := h m (by omega); unfold sumN; omega
      exact this n (Nat.le_refl _)
    unfold sumN
    by_cases c : i = n
    · subst c; omega
    · have := le_sum (f := f) (i := i) (n := n) (fun j hj => h j (by omega)) (by omega)
      omega
theorem HB.le {h : Nat → Int} {l : List Rq} (hb : HB h l) {t : Nat} (ht : t < 16) : 0 ≤ h t ∧ h t ≤ 16 := by
  have := le_sum (f := h) hb.nn ht
  have := hb.nn t ht
  have := hb.sum
  omega
structure TI (tb : Tab) : Prop where
  hb : ∀ r, r < 20 → HB (tb.held r) (tb.q r)
  dis : ∀ r r', r < 20 → r' < 20 → ∀ x, x ∈ tb.q r → ∀ y, y ∈ tb.q r' → x.t = y.t → r = r'
theorem TI.held {tb : Tab} (h : TI tb) (r t : Nat) (hr : r < 20) (ht : t < 16) : 0 ≤ tb.held r t ∧ tb.held r t ≤ 16 := (h.hb r hr).le ht
theorem TI.q {tb : Tab} (h : TI tb) (r : Nat) (hr : r < 20) : ∀ x, x ∈ tb.q r → x.t < 16 ∧ 1 ≤ x.u ∧ x.u ≤ 16 := (h.hb r hr).q
theorem TI.len {tb : Tab} (h : TI tb) (r : Nat) (hr : r < 20) : (tb.q r).length ≤ 16 := (h.hb r hr).len
theorem tab_held {tb : Tab} {f : Nat → Value} {E : Nat → List (Nat × Obj)} (h : TabF tb f E) {r t : Nat} (hr : r < 20) (ht : t < 16) : (arrL 340 f)[0 + 0 + r * 16 + t * 1]? = some (.int .i64 (tb.held r t)) := by
  rw [show 0 + 0 + r * 16 + t * 1 = 16 * r + t by omega, arrL_get (by omega), h.held r t hr ht]
theorem tab_q {f : Nat → Value} {r : Nat} (hr : r < 20) : (arrL 340 f)[0 + 320 + r * 1]? = some (f (320 + r)) := by
  rw [show 0 + 320 + r * 1 = 320 + r by omega, arrL_get (by omega)]
theorem arrL_cut {n : Nat} {g : Nat → Value} {o m : Nat} (h : o + m ≤ n) : ((arrL n g).drop o).take m = arrL m (fun i => g (o + i)) := by
  apply List.ext_getElem?
  intro i
  rw [List.getElem?_take]
  split
  · rw [List.getElem?_drop, arrL_get (by omega), arrL_get (by omega)]
  · rw [List.getElem?_eq_none (by rw [arrL_length]; omega)]
theorem tab_row {tb : Tab} {f : Nat → Value} {E : Nat → List (Nat × Obj)} (h : TabF tb f E) {r : Nat} (hr : r < 20) : ((arrL 340 f).drop (0 + 0 + r * 16)).take 16 = arrL 16 (fun t => .int .i64 (tb.held r t)) := by
  rw [arrL_cut (by omega)]
  exact arrL_congr fun t ht => by rw [show 0 + 0 + r * 16 + t = 16 * r + t by omega, h.held r t hr ht]
def totP (r : Nat) : Int := if 8 ≤ r then 16 else [1, 2, 3, 4, 6, 8, 10, 12].getD r 0
theorem tot_get {r : Nat} (h : r < 8) : ([.int .i64 1, .int .i64 2, .int .i64 3, .int .i64 4, .int .i64 6, .int .i64 8, .int .i64 10, .int .i64 12] : List Value)[r]? = some (.int .i64 (totP r)) := by
  have : ∀ r : Fin 8, ([.int .i64 1, .int .i64 2, .int .i64 3, .int .i64 4, .int .i64 6, .int .i64 8, .int .i64 10, .int .i64 12] : List Value)[r.1]? = some (.int .i64 (totP r)) := by
    intro r
    match r with
    | 0 => rfl
    | 1 => rfl
    | 2 => rfl
    | 3 => rfl
    | 4 => rfl
    | 5 => rfl
    | 6 => rfl
    | 7 => rfl
  exact this ⟨r, h⟩
theorem tot_rng (r : Nat) : 0 ≤ totP r ∧ totP r ≤ 16 := by
  unfold totP
  split
  · omega
  · rename_i h
    have : ∀ r : Fin 8, 0 ≤ ([1, 2, 3, 4, 6, 8, 10, 12] : List Int).getD r 0 ∧ ([1, 2, 3, 4, 6, 8, 10, 12] : List Int).getD r 0 ≤ 16 := by decide
    exact this ⟨r, by omega⟩
def freeP (tb : Tab) (r : Nat) : Int := totP r - sumN (tb.held r) 16
theorem sumN_rng {f : Nat → Int} {b : Int} : ∀ {n : Nat}, (∀ i, i < n → 0 ≤ f i ∧ f i ≤ b) → 0 ≤ sumN f n ∧ sumN f n ≤ b * n
  | 0, _ => ⟨Int.le_refl _, by simp [sumN]⟩
  | n + 1, h => by
    have h1 := sumN_rng (n := n) (fun i hi => h i (by omega))
    have h2 := h n (by omega)
    unfold sumN
    have : b * ((n + 1 : Nat) : Int) = b * (n : Int) + b := by rw [Int.natCast_add, Int.mul_add]; simp
    omega
def maskN (f : Nat → Int) : Nat → BitVec 16
  | 0 => 0#16
  | n + 1 => if 0 < f n then maskN f n ||| bitB n else maskN f n
def holdB (tb : Tab) (r : Nat) : BitVec 16 := maskN (tb.held r) 16
def waitOn (tb : Tab) (t : Nat) : Nat → Option Nat
  | 0 => none
  | n + 1 => match waitOn tb t n with
    | some r => some r
    | none => if (tb.q n).any (fun x => x.t == t) then some n else none
def waitV : Option Nat → Value
  | some r => .tuple #[.int .i64 (r : Int), .bool true]
  | none => .tuple #[.int .i64 0, .bool false]
def heldBy (tb : Tab) (t : Nat) : List Nat := (List.range 20).filter (fun r => decide (0 < tb.held r t))
theorem row_get {l : List Rq} {v : Value} {E : List (Nat × Obj)} (h : Row v l.length (fl rqc l) 2 130 E) {w : World} (hm : Mem E w) {i : Nat} {x : Rq} (hx : l[i]? = some x) : ∃ b c junk, v = .slice (some ⟨b, 0, none⟩) l.length c ∧ w.heap[b]? = some (C (fl rqc l ++ junk) 130) ∧ ((fl rqc l ++ junk).drop (0 + i * 2)).take 2 = rqc x := by
  have h0 : 0 < l.length := by have := (List.getElem?_eq_some_iff.1 hx).1; omega
  obtain ⟨b, c, junk, rfl, _, _, rfl⟩ := row_blk3 h h0
  exact ⟨b, c, junk, rfl, hm _ _ (List.mem_singleton.2 rfl), fl_at rqc_len hx junk⟩
theorem mem_famR {E : Nat → List (Nat × Obj)} {w : World} {n : Nat} {x : Nat × Obj} (hm : Mem (x :: fam E n) w) {r : Nat} (hr : r < n) : Mem (E r) w := fun b o h => hm b o (.tail _ (mem_fam hr h))
theorem row_take1 {v : Value} {l : List Rq} {i : Nat} {x : Rq} {E : List (Nat × Obj)} (h : Row v (i + 1) (fl tkc ((l.map (·.t)).take i) ++ [.int .i64 (x.t : Int)]) 1 57 E) (hx : l[i]? = some x) : Row v (i + 1) (fl tkc ((l.map (·.t)).take (i + 1))) 1 57 E := by
  have : (l.map (·.t)).take (i + 1) = (l.map (·.t)).take i ++ [x.t] := by
    rw [List.take_add_one, List.getElem?_map, hx]; rfl
  rw [this, fl_append]
  exact h
theorem arr1 {n : Nat} {g : Nat → Value} {i : Nat} (h : i < n) : (arrL n g)[i * 1]? = some (g i) := by rw [Nat.mul_one]; exact arrL_get h
theorem tot_get1 {r : Nat} (h : r < 8) : ([.int .i64 1, .int .i64 2, .int .i64 3, .int .i64 4, .int .i64 6, .int .i64 8, .int .i64 10, .int .i64 12] : List Value)[r * 1]? = some (.int .i64 (totP r)) := by rw [Nat.mul_one]; exact tot_get h
theorem maskN_T {f : Nat → Int} {i : Nat} (h : 0 < f i) : Value.int .u16 (mi (maskN f i ||| bitB i)) = .int .u16 (mi (maskN f (i + 1))) := by rw [maskN, if_pos h]
theorem maskN_F {f : Nat → Int} {i : Nat} (h : f i ≤ 0) : Value.int .u16 (mi (maskN f i)) = .int .u16 (mi (maskN f (i + 1))) := by rw [maskN, if_neg (by omega)]
theorem waitOn_some {tb : Tab} {t i : Nat} (h : waitOn tb t i = none) (h2 : (tb.q i).any (fun x => x.t == t) = true) : ∀ {n}, i < n → waitOn tb t n = some i
  | 0, h0 => absurd h0 (by omega)
  | n + 1, h0 => by
    rw [waitOn]
    by_cases c : n = i
    · subst c; rw [h]; simp only [h2, if_true]
    · rw [waitOn_some h h2 (show i < n by omega)]
theorem waitOn_next {tb : Tab} {t i : Nat} (h : waitOn tb t i = none) (h2 : (tb.q i).any (fun x => x.t == t) = false) : waitOn tb t (i + 1) = none := by
  rw [waitOn, h]; simp [h2]
theorem any_at {l : List Rq} {t j : Nat} {x : Rq} (hx : l[j]? = some x) (ht : (x.t : Int) = t) : l.any (fun x => x.t == t) = true := by
  rw [List.any_eq_true]
  exact ⟨x, List.mem_of_getElem? hx, by simp; omega⟩
theorem any_take {l : List Rq} {t j : Nat} {x : Rq} (hx : l[j]? = some x) (h : (l.take j).any (fun x => x.t == t) = false) (ht : ¬ (x.t : Int) = t) : (l.take (j + 1)).any (fun x => x.t == t) = false := by
  rw [List.take_add_one, hx, List.any_append, h]
  simp; omega
theorem any_all {l : List Rq} {t j : Nat} (h : (l.take j).any (fun x => x.t == t) = false) (hj : l.length ≤ j) : l.any (fun x => x.t == t) = false := by
  rw [List.take_of_length_le hj] at h; exact h
theorem row_take2 {v : Value} {g : Nat → Prop} [DecidablePred g] {n : Nat} {i : Nat} {E : List (Nat × Obj)} (h : Row v (n + 1) (fl tkc ((List.range i).filter (fun r => decide (g r))) ++ [.int .i64 (i : Int)]) 1 68 E) (hn : n = ((List.range i).filter (fun r => decide (g r))).length) (hg : g i) : Row v ((List.range (i + 1)).filter (fun r => decide (g r))).length (fl tkc ((List.range (i + 1)).filter (fun r => decide (g r)))) 1 68 E := by
  rw [List.range_succ, List.filter_append, List.filter_cons, if_pos (by simpa using hg), List.filter_nil, List.length_append, ← hn, fl_append]
  exact h
theorem row_take3 {v : Value} {g : Nat → Prop} [DecidablePred g] {i : Nat} {E : List (Nat × Obj)} (h : Row v ((List.range i).filter (fun r => decide (g r))).length (fl tkc ((List.range i).filter (fun r => decide (g r)))) 1 68 E) (hg : ¬ g i) : Row v ((List.range (i + 1)).filter (fun r => decide (g r))).length (fl tkc ((List.range (i + 1)).filter (fun r => decide (g r)))) 1 68 E := by
  rw [List.range_succ, List.filter_append, List.filter_cons, if_neg (by simpa using hg), List.filter_nil, List.append_nil]
  exact h
theorem filter_len (g : Nat → Bool) (i : Nat) : ((List.range i).filter g).length ≤ i := by have := List.length_filter_le g (List.range i); rwa [List.length_range] at this
/-- whom each task waits for, as the tables say -/
def wfS (tb : Tab) (r : Nat) (g : Nat → BitVec 16) (x : Rq) : Nat → BitVec 16 := fun j => if j = x.t then holdB tb r &&& ~~~ bitB x.t else g j
def wfN (tb : Tab) : Nat → (Nat → BitVec 16)
  | 0 => fun _ => 0#16
  | n + 1 => (tb.q n).foldl (wfS tb n) (wfN tb n)
def mskA (g : Nat → BitVec 16) : List Value := arrL 16 (fun j => .int .u16 (mi (g j)))
theorem mskA_len (g : Nat → BitVec 16) : (mskA g).length = 16 := arrL_length _ _
theorem mskA_one (g : Nat → BitVec 16) : (mskA g).all (·.oneCell') = true := arrL_all fun _ => rfl
theorem mskA_zero : C [.int .u16 0, .int .u16 0, .int .u16 0, .int .u16 0, .int .u16 0, .int .u16 0, .int .u16 0, .int .u16 0, .int .u16 0, .int .u16 0, .int .u16 0, .int .u16 0, .int .u16 0, .int .u16 0, .int .u16 0, .int .u16 0] 50 = C (mskA (fun _ => 0#16)) 50 := by
  unfold mskA arrL; rfl
theorem mskA_whole (g : Nat → BitVec 16) : ((mskA g).drop 0).take 16 = mskA g := by rw [List.drop_zero, List.take_of_length_le (by rw [mskA_len]; omega)]
theorem setL_whole {l cs : List Value} (h : cs.length = l.length) : setL l 0 cs = cs := by
  unfold setL
  rw [List.take_zero, List.nil_append, h, Nat.zero_add, List.drop_length, List.append_nil]
theorem mskA_store {g : Nat → BitVec 16} {i : Nat} {m : BitVec 16} (h : i < 16) : setL (mskA g) (0 + i * 1) [.int .u16 (mi m)] = mskA (fun j => if j = i then m else g j) := by
  unfold mskA
  rw [arr_store h]
  refine arrL_congr fun j _ => ?_
  unfold updV
  by_cases c : j = i
  · simp only [if_pos c]
  · simp only [if_neg c]
theorem wf_obj {tb : Tab} {r j : Nat} {g : Nat → BitVec 16} {x : Rq} (hx : (tb.q r)[j]? = some x) : C (mskA (fun k => if k = x.t then holdB tb r &&& ~~~ bitB x.t else ((tb.q r).take j).foldl (wfS tb r) g k)) 50 = C (mskA (((tb.q r).take (j + 1)).foldl (wfS tb r) g)) 50 := by
  rw [List.take_add_one, hx, List.foldl_append]; rfl
theorem wf_end {tb : Tab} {r j : Nat} {g : Nat → BitVec 16} (hj : (tb.q r).length ≤ j) : C (mskA (((tb.q r).take j).foldl (wfS tb r) g)) 50 = C (mskA ((tb.q r).foldl (wfS tb r) g)) 50 := by rw [List.take_of_length_le hj]
attribute [irreducible] fam famX


set_option maxHeartbeats 1000000 in
theorem total_spec (r : Nat) (hr : r < 20) : Sp Tryz.prog 67 #[.int .i64 (r : Int)] [] (fun v F' => v = .int .i64 (totP r) ∧ F' = []) := by
  refine f_enter (args := [.int .i64 (r : Int)]) Tryz.func67 rfl Tryz.ntmps67 rfl ?_
  intro w0 w a hpre hl hh
  simp only [slotsFrom, Nat.reduceAdd] at hl
  refine c_seq ?_
  refine c_region ?_
  refine wl (wl_val hl rfl trivial (r_assign hl rfl) ?_)
  clear hl a; intro a hl
  refine w_nil ?_
  have hl2 := hl.add (t := 0) (hl.nil) rfl; clear hl; have hl := hl2; clear hl2
  refine then_normal ?_
  refine c_seq ?_
  refine c_seq ?_
  refine c_region ?_
  refine wl (wl_val hl rfl trivial (r_move hl rfl) ?_)
  clear hl a; intro a hl
  refine wl (wl_val hl rfl trivial (r_geq hl rfl rfl) ?_)
  clear hl a; intro a hl
  refine w_nil ?_
  have hl2 := hl.add (t := 0) (hl.add (t := 4) (hl.nil) rfl) rfl; clear hl; have hl := hl2; clear hl2
  refine then_normal ?_
  refine c_cond hl rfl ?_ ?_
  · intro hc0
    try simp only [decide_eq_true_eq, decide_eq_false_iff_not, Bool.not_eq_true', Bool.not_eq_false', Bool.not_eq_true, Bool.not_eq_false, Bool.and_eq_true, Bool.or_eq_true, Bool.and_eq_false_iff, Bool.or_eq_false_iff, Bool.not_not, ne_eq, Int.not_lt, Int.not_le, Decidable.not_not, beq_iff_eq, bne_iff_ne] at hc0
    refine c_seq ?_
    refine c_region ?_
    refine wl (wl_val hl rfl trivial (r_assign hl rfl) ?_)
    clear hl a; intro a hl
    refine w_nil ?_
    have hl2 := hl.add (t := 2) (hl.nil) rfl; clear hl; have hl := hl2; clear hl2
    refine then_normal ?_
    refine wp_ret ?_
    refine then_ret ?_
    refine f_ret1 (F' := []) hl hh rfl rfl (by repeat (first | exact keeps_nil | apply keeps_cons (by repeat (first | exact find_head | apply find_tail)) (by first  | rfl) | exact keeps_self | apply keeps_mv)) ?_
    exact ⟨congrArg (Value.int .i64) (by unfold totP; rw [if_pos (by omega)]), rfl⟩
  · intro hc0
    try simp only [decide_eq_true_eq, decide_eq_false_iff_not, Bool.not_eq_true', Bool.not_eq_false', Bool.not_eq_true, Bool.not_eq_false, Bool.and_eq_true, Bool.or_eq_true, Bool.and_eq_false_iff, Bool.or_eq_false_iff, Bool.not_not, ne_eq, Int.not_lt, Int.not_le, Decidable.not_not, beq_iff_eq, bne_iff_ne] at hc0
    refine wp_skip ?_
    refine then_normal ?_
    refine c_seq ?_
    refine c_region ?_
    refine wl (wl_val hl rfl trivial (r_build hl rfl zero182 bld182 (by simp only [fillL, setL, List.getElem?_cons_zero, List.getElem?_cons_succ, Value.cells, List.take_zero, List.take_succ_cons, List.take_nil, List.drop_zero, List.drop_succ_cons, List.drop_nil, List.length_cons, List.length_nil, List.cons_append, List.nil_append, List.append_nil, Nat.zero_add, Nat.add_zero, Nat.reduceAdd, Nat.reduceBEq, Nat.reduceEqDiff, Nat.ble, BEq.rfl, Bool.and_true, Bool.and_self, cond_true, beq_self_eq_true]; rfl)) ?_)
    clear hl a; intro a hl
    refine wl (wl_val hl rfl trivial (r_move hl rfl) ?_)
    clear hl a; intro a hl
    refine wl (wl_val hl rfl trivial (r_indexAgg hl rfl rfl arrT182 one3 (by omega) (by omega) (by first | (simp only [Int.reduceToNat]; rfl) | exact toNat_add1 _ | exact toNat_add2 _ _ | exact toNat_emod _ _ | exact Int.toNat_natCast _ | rfl) (by exact tot_get1 (by omega))) ?_)
    clear hl a; intro a hl
    refine wl (wl_val hl rfl trivial (r_assign hl rfl) ?_)
    clear hl a; intro a hl
    refine w_nil ?_
    have hl2 := hl.add (t := 2) (hl.nil) rfl; clear hl; have hl := hl2; clear hl2
    refine then_normal ?_
    refine wp_ret ?_
    refine f_ret1 (F' := []) hl hh rfl rfl (by repeat (first | exact keeps_nil | apply keeps_cons (by repeat (first | exact find_head | apply find_tail)) (by first  | rfl) | exact keeps_self | apply keeps_mv)) ?_
    exact ⟨rfl, rfl⟩

set_option maxHeartbeats 2000000 in
theorem free_spec {tb : Tab} {f : Nat → Value} {E : Nat → List (Nat × Obj)} (hT : TabF tb f E) (bt : Nat) (hI : TI tb) (r : Nat) (hr : r < 20) : SpK Tryz.prog 68 #[.pointer (some ⟨bt, 0, none⟩), .int .i64 (r : Int)] (Mem (tbL bt f E)) [] (fun v F' => v = .int .i64 (freeP tb r) ∧ F' = []) := by
  refine f_enter (args := [.pointer (some ⟨bt, 0, none⟩), .int .i64 (r : Int)]) Tryz.func68 rfl Tryz.ntmps68 rfl ?_
  intro w0 w a hpre hl hh
  have hmT := hpre _ _ (List.mem_cons_self ..)
  have ht0 := tot_rng r
  simp only [slotsFrom, Nat.reduceAdd] at hl
  refine c_seq ?_
  refine c_region ?_
  refine wl (wl_val hl rfl trivial (r_assign hl rfl) ?_)
  clear hl a; intro a hl
  refine w_nil ?_
  have hl2 := hl.add (t := 0) (hl.add (t := 1) (hl.nil) rfl) rfl; clear hl; have hl := hl2; clear hl2
  refine then_normal ?_
  refine c_seq ?_
  refine c_region ?_
  refine wl (wl_val hl rfl trivial (r_move hl rfl) ?_)
  clear hl a; intro a hl
  refine wl (w_call hl hh rfl trivial rfl cal67 rfl (total_spec r hr) (by repeat (first | exact keeps_nil | apply keeps_cons (by repeat (first | exact find_head | apply find_tail)) (by first  | rfl) | exact keeps_self | exact keeps_left | exact keeps_right | exact keeps_swap | apply keeps_mv)) trivial ?_)
  clear hl hh a w; intro vc Fc a w hR hl hh
  obtain ⟨rfl, rfl⟩ := hR
  try simp only [List.cons_append, List.nil_append] at hh
  refine wl (wl_val hl rfl trivial (r_assign hl rfl) ?_)
  clear hl a; intro a hl
  refine w_nil ?_
  have hl2 := hl.add (t := 0) (hl.add (t := 1) (hl.add (t := 5) (hl.nil) rfl) rfl) rfl; clear hl; have hl := hl2; clear hl2
  refine then_normal ?_
  refine c_seq ?_
  refine c_seq ?_
  refine c_region ?_
  refine wl (wl_val hl rfl trivial (r_move hl rfl) ?_)
  clear hl a; intro a hl
  refine wl (wl_val hl rfl trivial (r_move hl rfl) ?_)
  clear hl a; intro a hl
  refine wl (wl_val hl rfl trivial (r_nilCheck hl rfl) ?_)
  clear hl a; intro a hl
  refine wl (wl_val hl rfl trivial (r_field hl rfl fld111_0) ?_)
  clear hl a; intro a hl
  refine wl (wl_val hl rfl trivial (r_indexA hl rfl rfl arr107 (by omega) (by omega) (by first | (simp only [Int.reduceToNat]; rfl) | exact toNat_add1 _ | exact toNat_add2 _ _ | exact toNat_emod _ _ | exact Int.toNat_natCast _ | rfl)) ?_)
  clear hl a; intro a hl
  first | refine wl (w_loadA hl hh rfl trivial agg106 rfl (by repeat (first | exact find_head | apply find_tail)) (by first | (simp only [List.getElem?_cons_zero, List.getElem?_cons_succ, Value.cells, List.take_zero, List.take_succ_cons, List.take_nil, List.drop_zero, List.drop_succ_cons, List.drop_nil, List.length_cons, List.length_nil, List.cons_append, List.nil_append, List.append_nil, Nat.zero_add, Nat.add_zero, Nat.reduceAdd, Nat.reduceBEq, Nat.reduceEqDiff, Nat.ble, BEq.rfl, Bool.and_true, Bool.and_self, cond_true, beq_self_eq_true]; rfl)) (by first | rfl | (simp; done)) ?_) | refine wl (w_loadRA hl hh rfl trivial agg106 rfl hmT (by simp) (tab_row hT (by omega)) (arrL_length _ _) ?_)
  clear hl a; intro a hl
  refine wl (wl_val hl rfl trivial (r_move hl rfl) ?_)
  clear hl a; intro a hl
  refine w_nil ?_
  have hl2 := hl.add (t := 5) (hl.add (t := 15) (hl.add (t := 16) (hl.nil) rfl) rfl) rfl; clear hl; have hl := hl2; clear hl2
  refine then_normal ?_
  refine wp_block ?_
  obtain ⟨KS0, hKS0, hk⟩ := (hl.add (t := 15) (hl.nil) rfl).name
  obtain ⟨HS0, hHS0, hh2⟩ := hh.name (keeps_nil)
  refine c_loop (α := Nat) (fun i => 16 - i) (fun i a w => (i ≤ 16) ∧ Sl 24 ([(16, .int .i64 (i : Int)), (5, .int .i64 (totP r - sumN (tb.held r) i))] ++ KS0) a ∧ Has _ w0 ([] ++ HS0) w) 0 ⟨(by omega), hl.addE (t := 16) (hl.addE (t := 5) (hk) rfl (by first | (simp [sumN]; done) | rfl)) rfl (by first | (simp [sumN]; done) | rfl), hh2⟩ ?_
  clear hk hh2 hl hh a w
  intro i a w hI
  obtain ⟨hi, hl, hh⟩ := hI
  subst hKS0; subst hHS0
  simp only [List.cons_append, List.nil_append, List.append_nil] at hl hh
  have hsm := sumN_rng (f := tb.held r) (b := 16) (n := i) (fun j hj => hI.held r j hr (by omega))
  refine c_seq ?_
  refine c_region ?_
  refine wl (wl_val hl rfl trivial (r_lss hl rfl rfl) ?_)
  clear hl a; intro a hl
  refine w_nil ?_
  have hl2 := hl.add (t := 5) (hl.add (t := 15) (hl.add (t := 16) (hl.add (t := 17) (hl.nil) rfl) rfl) rfl) rfl; clear hl; have hl := hl2; clear hl2
  refine then_normal ?_
  refine c_seq ?_
  refine c_cond hl rfl ?_ ?_
  · intro hc0
    try simp only [decide_eq_true_eq, decide_eq_false_iff_not, Bool.not_eq_true', Bool.not_eq_false', Bool.not_eq_true, Bool.not_eq_false, Bool.and_eq_true, Bool.or_eq_true, Bool.and_eq_false_iff, Bool.or_eq_false_iff, Bool.not_not, ne_eq, Int.not_lt, Int.not_le, Decidable.not_not, beq_iff_eq, bne_iff_ne] at hc0
    have hb1 := hI.held r i hr (by omega)
    refine wp_skip ?_
    refine then_normal ?_
    refine c_seq ?_
    refine wp_block ?_
    refine c_seq ?_
    refine c_region ?_
    refine wl (wl_val hl rfl trivial (r_indexAgg hl rfl rfl arrT106 one3 (by omega) (by omega) (by first | (simp only [Int.reduceToNat]; rfl) | exact toNat_add1 _ | exact toNat_add2 _ _ | exact toNat_emod _ _ | exact Int.toNat_natCast _ | rfl) (by exact arr1 (by omega))) ?_)
    clear hl a; intro a hl
    refine wl (wl_val hl rfl trivial (r_assign hl rfl) ?_)
    clear hl a; intro a hl
    refine w_nil ?_
    have hl2 := hl.add (t := 5) (hl.add (t := 7) (hl.add (t := 15) (hl.add (t := 16) (hl.nil) rfl) rfl) rfl) rfl; clear hl; have hl := hl2; clear hl2
    refine then_normal ?_
    refine c_region ?_
    refine wl (wl_val hl rfl trivial (r_move hl rfl) ?_)
    clear hl a; intro a hl
    refine wl (wl_val hl rfl trivial (r_move hl rfl) ?_)
    clear hl a; intro a hl
    first | refine wl (wl_val hl rfl trivial (r_sub hl rfl rfl (by simp only [Fits]; omega)) ?_) | refine wl (wl_val hl rfl trivial (r_subW hl rfl rfl) ?_)
    clear hl a; intro a hl
    refine wl (wl_val hl rfl trivial (r_assign hl rfl) ?_)
    clear hl a; intro a hl
    refine w_nil ?_
    have hl2 := hl.add (t := 5) (hl.add (t := 15) (hl.add (t := 16) (hl.nil) rfl) rfl) rfl; clear hl; have hl := hl2; clear hl2
    refine blk_normal ?_
    refine then_normal ?_
    refine c_region ?_
    first | refine wl (wl_val hl rfl trivial (r_add hl rfl rfl (by simp only [Fits]; omega)) ?_) | refine wl (wl_val hl rfl trivial (r_addW hl rfl rfl) ?_)
    clear hl a; intro a hl
    refine wl (wl_val hl rfl trivial (r_move hl rfl) ?_)
    clear hl a; intro a hl
    refine w_nil ?_
    have hl2 := hl.add (t := 5) (hl.add (t := 15) (hl.add (t := 16) (hl.nil) rfl) rfl) rfl; clear hl; have hl := hl2; clear hl2
    refine then_normal ?_
    refine ⟨(i + 1), (by omega), (by omega), hl.addE (t := 16) (hl.addE (t := 5) (hl.addE (t := 15) (hl.nil) rfl (by first | rfl | exact congrArg (Value.int .i64) (by simp only [sumN]; omega))) rfl (by first | rfl | exact congrArg (Value.int .i64) (by simp only [sumN]; omega))) rfl (by first | rfl | exact congrArg (Value.int .i64) (by simp only [sumN]; omega)), hh.keep (by repeat (first | exact keeps_nil | apply keeps_cons (by repeat (first | exact find_head | apply find_tail)) (by first  | rfl) | exact keeps_self | exact keeps_left | exact keeps_right | exact keeps_swap | apply keeps_mv))⟩
  · intro hc0
    try simp only [decide_eq_true_eq, decide_eq_false_iff_not, Bool.not_eq_true', Bool.not_eq_false', Bool.not_eq_true, Bool.not_eq_false, Bool.and_eq_true, Bool.or_eq_true, Bool.and_eq_false_iff, Bool.or_eq_false_iff, Bool.not_not, ne_eq, Int.not_lt, Int.not_le, Decidable.not_not, beq_iff_eq, bne_iff_ne] at hc0
    have hi16 : i = 16 := by omega
    subst hi16
    refine wp_exit ?_
    refine then_exit ?_
    refine then_exit ?_
    refine blk_exit ?_
    refine then_normal ?_
    refine c_seq ?_
    refine c_region ?_
    refine wl (wl_val hl rfl trivial (r_move hl rfl) ?_)
    clear hl a; intro a hl
    refine wl (wl_val hl rfl trivial (r_assign hl rfl) ?_)
    clear hl a; intro a hl
    refine w_nil ?_
    have hl2 := hl.add (t := 4) (hl.nil) rfl; clear hl; have hl := hl2; clear hl2
    refine then_normal ?_
    refine wp_ret ?_
    refine f_ret1 (F' := []) hl hh rfl rfl (by repeat (first | exact keeps_nil | apply keeps_cons (by repeat (first | exact find_head | apply find_tail)) (by first  | rfl) | exact keeps_self | exact keeps_left | exact keeps_right | exact keeps_swap | apply keeps_mv)) ?_
    exact ⟨rfl, rfl⟩

set_option maxHeartbeats 2000000 in
theorem holders_spec {tb : Tab} {f : Nat → Value} {E : Nat → List (Nat × Obj)} (hT : TabF tb f E) (bt : Nat) (r : Nat) (hr : r < 20) : SpK Tryz.prog 41 #[.pointer (some ⟨bt, 0, none⟩), .int .i64 (r : Int)] (Mem (tbL bt f E)) [] (fun v F' => v = .int .u16 (mi (holdB tb r)) ∧ F' = []) := by
  refine f_enter (args := [.pointer (some ⟨bt, 0, none⟩), .int .i64 (r : Int)]) Tryz.func41 rfl Tryz.ntmps41 rfl ?_
  intro w0 w a hpre hl hh
  have hmT := hpre _ _ (List.mem_cons_self ..)
  
  simp only [slotsFrom, Nat.reduceAdd] at hl
  refine c_seq ?_
  refine c_region ?_
  refine wl (wl_val hl rfl trivial (r_assign hl rfl) ?_)
  clear hl a; intro a hl
  refine w_nil ?_
  have hl2 := hl.add (t := 0) (hl.add (t := 1) (hl.nil) rfl) rfl; clear hl; have hl := hl2; clear hl2
  refine then_normal ?_
  refine c_seq ?_
  refine c_region ?_
  refine wl (wl_val hl rfl trivial (r_assign hl rfl) ?_)
  clear hl a; intro a hl
  refine w_nil ?_
  have hl2 := hl.add (t := 0) (hl.add (t := 1) (hl.add (t := 5) (hl.nil) rfl) rfl) rfl; clear hl; have hl := hl2; clear hl2
  refine then_normal ?_
  refine c_seq ?_
  refine c_seq ?_
  refine c_region ?_
  refine wl (wl_val hl rfl trivial (r_move hl rfl) ?_)
  clear hl a; intro a hl
  refine wl (wl_val hl rfl trivial (r_move hl rfl) ?_)
  clear hl a; intro a hl
  refine wl (wl_val hl rfl trivial (r_nilCheck hl rfl) ?_)
  clear hl a; intro a hl
  refine wl (wl_val hl rfl trivial (r_field hl rfl fld111_0) ?_)
  clear hl a; intro a hl
  refine wl (wl_val hl rfl trivial (r_indexA hl rfl rfl arr107 (by omega) (by omega) (by first | (simp only [Int.reduceToNat]; rfl) | exact toNat_add1 _ | exact toNat_add2 _ _ | exact toNat_emod _ _ | exact Int.toNat_natCast _ | rfl)) ?_)
  clear hl a; intro a hl
  first | refine wl (w_loadA hl hh rfl trivial agg106 rfl (by repeat (first | exact find_head | apply find_tail)) (by first | (simp only [List.getElem?_cons_zero, List.getElem?_cons_succ, Value.cells, List.take_zero, List.take_succ_cons, List.take_nil, List.drop_zero, List.drop_succ_cons, List.drop_nil, List.length_cons, List.length_nil, List.cons_append, List.nil_append, List.append_nil, Nat.zero_add, Nat.add_zero, Nat.reduceAdd, Nat.reduceBEq, Nat.reduceEqDiff, Nat.ble, BEq.rfl, Bool.and_true, Bool.and_self, cond_true, beq_self_eq_true]; rfl)) (by first | rfl | (simp; done)) ?_) | refine wl (w_loadRA hl hh rfl trivial agg106 rfl hmT (by simp) (tab_row hT (by omega)) (arrL_length _ _) ?_)
  clear hl a; intro a hl
  refine wl (wl_val hl rfl trivial (r_move hl rfl) ?_)
  clear hl a; intro a hl
  refine w_nil ?_
  have hl2 := hl.add (t := 5) (hl.add (t := 13) (hl.add (t := 14) (hl.nil) rfl) rfl) rfl; clear hl; have hl := hl2; clear hl2
  refine then_normal ?_
  refine wp_block ?_
  obtain ⟨KS0, hKS0, hk⟩ := (hl.add (t := 13) (hl.nil) rfl).name
  obtain ⟨HS0, hHS0, hh2⟩ := hh.name (keeps_nil)
  refine c_loop (α := Nat) (fun i => 16 - i) (fun i a w => (i ≤ 16) ∧ Sl 26 ([(14, .int .i64 (i : Int)), (5, .int .u16 (mi (maskN (tb.held r) i)))] ++ KS0) a ∧ Has _ w0 ([] ++ HS0) w) 0 ⟨(by omega), hl.addE (t := 14) (hl.addE (t := 5) (hk) rfl (by first | rfl)) rfl (by first | rfl), hh2⟩ ?_
  clear hk hh2 hl hh a w
  intro i a w hI
  obtain ⟨hi, hl, hh⟩ := hI
  subst hKS0; subst hHS0
  simp only [List.cons_append, List.nil_append, List.append_nil] at hl hh
  refine c_seq ?_
  refine c_region ?_
  refine wl (wl_val hl rfl trivial (r_lss hl rfl rfl) ?_)
  clear hl a; intro a hl
  refine w_nil ?_
  have hl2 := hl.add (t := 5) (hl.add (t := 13) (hl.add (t := 14) (hl.add (t := 15) (hl.nil) rfl) rfl) rfl) rfl; clear hl; have hl := hl2; clear hl2
  refine then_normal ?_
  refine c_seq ?_
  refine c_cond hl rfl ?_ ?_
  · intro hc0
    try simp only [decide_eq_true_eq, decide_eq_false_iff_not, Bool.not_eq_true', Bool.not_eq_false', Bool.not_eq_true, Bool.not_eq_false, Bool.and_eq_true, Bool.or_eq_true, Bool.and_eq_false_iff, Bool.or_eq_false_iff, Bool.not_not, ne_eq, Int.not_lt, Int.not_le, Decidable.not_not, beq_iff_eq, bne_iff_ne] at hc0
    refine wp_skip ?_
    refine then_normal ?_
    refine c_seq ?_
    refine wp_block ?_
    refine c_seq ?_
    refine c_region ?_
    refine wl (wl_val hl rfl trivial (r_move hl rfl) ?_)
    clear hl a; intro a hl
    refine wl (wl_val hl rfl trivial (r_indexAgg hl rfl rfl arrT106 one3 (by omega) (by omega) (by first | (simp only [Int.reduceToNat]; rfl) | exact toNat_add1 _ | exact toNat_add2 _ _ | exact toNat_emod _ _ | exact Int.toNat_natCast _ | rfl) (by exact arr1 (by omega))) ?_)
    clear hl a; intro a hl
    refine wl (wl_val hl rfl trivial (r_assign hl rfl) ?_)
    clear hl a; intro a hl
    refine wl (wl_val hl rfl trivial (r_assign hl rfl) ?_)
    clear hl a; intro a hl
    refine w_nil ?_
    have hl2 := hl.add (t := 5) (hl.add (t := 6) (hl.add (t := 7) (hl.add (t := 13) (hl.add (t := 14) (hl.nil) rfl) rfl) rfl) rfl) rfl; clear hl; have hl := hl2; clear hl2
    refine then_normal ?_
    refine c_seq ?_
    refine c_region ?_
    refine wl (wl_val hl rfl trivial (r_move hl rfl) ?_)
    clear hl a; intro a hl
    refine wl (wl_val hl rfl trivial (r_gtr hl rfl rfl) ?_)
    clear hl a; intro a hl
    refine w_nil ?_
    have hl2 := hl.add (t := 5) (hl.add (t := 6) (hl.add (t := 13) (hl.add (t := 14) (hl.add (t := 19) (hl.nil) rfl) rfl) rfl) rfl) rfl; clear hl; have hl := hl2; clear hl2
    refine then_normal ?_
    refine c_cond hl rfl ?_ ?_
    · intro hc1
      try simp only [decide_eq_true_eq, decide_eq_false_iff_not, Bool.not_eq_true', Bool.not_eq_false', Bool.not_eq_true, Bool.not_eq_false, Bool.and_eq_true, Bool.or_eq_true, Bool.and_eq_false_iff, Bool.or_eq_false_iff, Bool.not_not, ne_eq, Int.not_lt, Int.not_le, Decidable.not_not, beq_iff_eq, bne_iff_ne] at hc1
      refine c_region ?_
      refine wl (wl_val hl rfl trivial (r_move hl rfl) ?_)
      clear hl a; intro a hl
      refine wl (wl_val hl rfl trivial (r_move hl rfl) ?_)
      clear hl a; intro a hl
      refine wl (w_call hl hh rfl trivial rfl cal32 rfl (bit_spec _ (by omega)) (by repeat (first | exact keeps_nil | apply keeps_cons (by repeat (first | exact find_head | apply find_tail)) (by first  | rfl) | exact keeps_self | exact keeps_left | exact keeps_right | exact keeps_swap | apply keeps_mv)) trivial ?_)
      clear hl hh a w; intro vc Fc a w hR hl hh
      obtain ⟨rfl, rfl⟩ := hR
      try simp only [List.cons_append, List.nil_append] at hh
      refine wl (wl_val hl rfl trivial (r_or hl rfl rfl) ?_)
      clear hl a; intro a hl
      rw [or_mi] at hl
      refine wl (wl_val hl rfl trivial (r_assign hl rfl) ?_)
      clear hl a; intro a hl
      refine w_nil ?_
      have hl2 := hl.add (t := 5) (hl.add (t := 13) (hl.add (t := 14) (hl.nil) rfl) rfl) rfl; clear hl; have hl := hl2; clear hl2
      refine blk_normal ?_
      refine then_normal ?_
      refine c_region ?_
      first | refine wl (wl_val hl rfl trivial (r_add hl rfl rfl (by simp only [Fits]; omega)) ?_) | refine wl (wl_val hl rfl trivial (r_addW hl rfl rfl) ?_)
      clear hl a; intro a hl
      refine wl (wl_val hl rfl trivial (r_move hl rfl) ?_)
      clear hl a; intro a hl
      refine w_nil ?_
      have hl2 := hl.add (t := 5) (hl.add (t := 13) (hl.add (t := 14) (hl.nil) rfl) rfl) rfl; clear hl; have hl := hl2; clear hl2
      refine then_normal ?_
      refine ⟨(i + 1), (by omega), (by omega), hl.addE (t := 14) (hl.addE (t := 5) (hl.addE (t := 13) (hl.nil) rfl (by first | rfl | exact maskN_T (by assumption) | exact maskN_F (by assumption))) rfl (by first | rfl | exact maskN_T (by assumption) | exact maskN_F (by assumption))) rfl (by first | rfl | exact maskN_T (by assumption) | exact maskN_F (by assumption)), hh.keep (by repeat (first | exact keeps_nil | apply keeps_cons (by repeat (first | exact find_head | apply find_tail)) (by first  | rfl) | exact keeps_self | exact keeps_left | exact keeps_right | exact keeps_swap | apply keeps_mv))⟩
    · intro hc1
      try simp only [decide_eq_true_eq, decide_eq_false_iff_not, Bool.not_eq_true', Bool.not_eq_false', Bool.not_eq_true, Bool.not_eq_false, Bool.and_eq_true, Bool.or_eq_true, Bool.and_eq_false_iff, Bool.or_eq_false_iff, Bool.not_not, ne_eq, Int.not_lt, Int.not_le, Decidable.not_not, beq_iff_eq, bne_iff_ne] at hc1
      refine wp_skip ?_
      refine blk_normal ?_
      refine then_normal ?_
      refine c_region ?_
      first | refine wl (wl_val hl rfl trivial (r_add hl rfl rfl (by simp only [Fits]; omega)) ?_) | refine wl (wl_val hl rfl trivial (r_addW hl rfl rfl) ?_)
      clear hl a; intro a hl
      refine wl (wl_val hl rfl trivial (r_move hl rfl) ?_)
      clear hl a; intro a hl
      refine w_nil ?_
      have hl2 := hl.add (t := 5) (hl.add (t := 13) (hl.add (t := 14) (hl.nil) rfl) rfl) rfl; clear hl; have hl := hl2; clear hl2
      refine then_normal ?_
      refine ⟨(i + 1), (by omega), (by omega), hl.addE (t := 14) (hl.addE (t := 5) (hl.addE (t := 13) (hl.nil) rfl (by first | rfl | exact maskN_T (by assumption) | exact maskN_F (by assumption))) rfl (by first | rfl | exact maskN_T (by assumption) | exact maskN_F (by assumption))) rfl (by first | rfl | exact maskN_T (by assumption) | exact maskN_F (by assumption)), hh.keep (by repeat (first | exact keeps_nil | apply keeps_cons (by repeat (first | exact find_head | apply find_tail)) (by first  | rfl) | exact keeps_self | exact keeps_left | exact keeps_right | exact keeps_swap | apply keeps_mv))⟩
  · intro hc0
    try simp only [decide_eq_true_eq, decide_eq_false_iff_not, Bool.not_eq_true', Bool.not_eq_false', Bool.not_eq_true, Bool.not_eq_false, Bool.and_eq_true, Bool.or_eq_true, Bool.and_eq_false_iff, Bool.or_eq_false_iff, Bool.not_not, ne_eq, Int.not_lt, Int.not_le, Decidable.not_not, beq_iff_eq, bne_iff_ne] at hc0
    have hi16 : i = 16 := by omega
    subst hi16
    refine wp_exit ?_
    refine then_exit ?_
    refine then_exit ?_
    refine blk_exit ?_
    refine then_normal ?_
    refine c_seq ?_
    refine c_region ?_
    refine wl (wl_val hl rfl trivial (r_move hl rfl) ?_)
    clear hl a; intro a hl
    refine wl (wl_val hl rfl trivial (r_assign hl rfl) ?_)
    clear hl a; intro a hl
    refine w_nil ?_
    have hl2 := hl.add (t := 4) (hl.nil) rfl; clear hl; have hl := hl2; clear hl2
    refine then_normal ?_
    refine wp_ret ?_
    refine f_ret1 (F' := []) hl hh rfl rfl (by repeat (first | exact keeps_nil | apply keeps_cons (by repeat (first | exact find_head | apply find_tail)) (by first  | rfl) | exact keeps_self | exact keeps_left | exact keeps_right | exact keeps_swap | apply keeps_mv)) ?_
    exact ⟨rfl, rfl⟩

theorem rq_task (x : Rq) : (rqc x)[0]? = some (.int .i64 (x.t : Int)) := rfl
structure WS5 where
  v : Value
  E : List (Nat × Obj)
  i : Nat
theorem row_len1 {v : Value} {n : Nat} {xs : List Value} {s e : Nat} {E : List (Nat × Obj)} (h : Row v n xs s e E) : ∃ p c, v = .slice p n c := row_val h

set_option maxHeartbeats 2000000 in
theorem waiters_spec {tb : Tab} {f : Nat → Value} {E : Nat → List (Nat × Obj)} (hT : TabF tb f E) (bt : Nat) (hI : TI tb) (r : Nat) (hr : r < 20) : SpK Tryz.prog 72 #[.pointer (some ⟨bt, 0, none⟩), .int .i64 (r : Int)] (Mem (tbL bt f E)) [] (fun v F' => Row v (tb.q r).length (fl tkc ((tb.q r).map (·.t))) 1 57 F') := by
  refine f_enter (args := [.pointer (some ⟨bt, 0, none⟩), .int .i64 (r : Int)]) Tryz.func72 rfl Tryz.ntmps72 rfl ?_
  intro w0 w a hpre hl hh
  have hmT := hpre _ _ (List.mem_cons_self ..)
  have hq9 := hI.len r hr
  simp only [slotsFrom, Nat.reduceAdd] at hl
  refine c_seq ?_
  refine c_region ?_
  refine wl (wl_val hl rfl trivial (r_assign hl rfl) ?_)
  clear hl a; intro a hl
  refine w_nil ?_
  have hl2 := hl.add (t := 0) (hl.add (t := 1) (hl.nil) rfl) rfl; clear hl; have hl := hl2; clear hl2
  refine then_normal ?_
  refine c_seq ?_
  refine c_region ?_
  refine wl (wl_val hl rfl trivial (r_assign hl rfl) ?_)
  clear hl a; intro a hl
  refine w_nil ?_
  have hl2 := hl.add (t := 0) (hl.add (t := 1) (hl.add (t := 5) (hl.nil) rfl) rfl) rfl; clear hl; have hl := hl2; clear hl2
  refine then_normal ?_
  refine c_seq ?_
  refine c_seq ?_
  refine c_region ?_
  refine wl (wl_val hl rfl trivial (r_move hl rfl) ?_)
  clear hl a; intro a hl
  refine wl (wl_val hl rfl trivial (r_move hl rfl) ?_)
  clear hl a; intro a hl
  refine wl (wl_val hl rfl trivial (r_nilCheck hl rfl) ?_)
  clear hl a; intro a hl
  refine wl (wl_val hl rfl trivial (r_field hl rfl fld111_1) ?_)
  clear hl a; intro a hl
  refine wl (wl_val hl rfl trivial (r_indexA hl rfl rfl arr109 (by omega) (by omega) (by first | (simp only [Int.reduceToNat]; rfl) | exact toNat_add1 _ | exact toNat_add2 _ _ | exact toNat_emod _ _ | exact Int.toNat_natCast _ | rfl)) ?_)
  clear hl a; intro a hl
  first | refine wl (w_load hl hh rfl trivial one108 rfl (by repeat (first | exact find_head | apply find_tail)) (by first | rfl) ?_) | refine wl (w_loadR hl hh rfl trivial one108 rfl hmT (by simp) (tab_held hT (by omega) (by omega)) ?_) | refine wl (w_loadR hl hh rfl trivial one108 rfl hmT (by simp) (tab_q (by omega)) ?_)
  clear hl a; intro a hl
  obtain ⟨p9, c9, hpc⟩ := row_val (hT.row r hr)
  rw [hpc] at hl
  refine wl (wl_val hl rfl trivial (r_lenS hl rfl slc108) ?_)
  clear hl a; intro a hl
  refine wl (wl_val hl rfl trivial (r_move hl rfl) ?_)
  clear hl a; intro a hl
  refine w_nil ?_
  have hl2 := hl.add (t := 5) (hl.add (t := 13) (hl.add (t := 14) (hl.add (t := 15) (hl.nil) rfl) rfl) rfl) rfl; clear hl; have hl := hl2; clear hl2
  refine then_normal ?_
  refine wp_block ?_
  obtain ⟨KS0, hKS0, hk⟩ := (hl.add (t := 13) (hl.add (t := 14) (hl.nil) rfl) rfl).name
  obtain ⟨HS0, hHS0, hh2⟩ := hh.nameT (A := []) (U := []) ((by repeat (first | exact keeps_nil | exact keeps_self | exact keeps_swap | apply keeps_mv)))
  refine c_loop (α := WS5) (fun z => (tb.q r).length - z.i) (fun z a w => (z.i ≤ (tb.q r).length ∧ Row z.v z.i (fl tkc (((tb.q r).map (·.t)).take z.i)) 1 57 z.E) ∧ Sl 26 ([(15, .int .i64 (z.i : Int)), (5, z.v)] ++ KS0) a ∧ Has _ w0 ([] ++ (HS0 ++ z.E)) w) ⟨.slice none 0 0, [], 0⟩ ⟨⟨Nat.zero_le _, Row.nil _ _⟩, hl.addE (t := 15) (hl.addE (t := 5) (hk) rfl (by first | rfl)) rfl (by first | rfl), hh2⟩ ?_
  clear hk hh2 hl hh a w
  intro z a w hI
  obtain ⟨⟨hzi, hRz⟩, hl, hh⟩ := hI
  subst hKS0; subst hHS0
  simp only [List.cons_append, List.nil_append, List.append_nil] at hl hh
  refine c_seq ?_
  refine c_region ?_
  refine wl (wl_val hl rfl trivial (r_lss hl rfl rfl) ?_)
  clear hl a; intro a hl
  refine w_nil ?_
  have hl2 := hl.add (t := 5) (hl.add (t := 13) (hl.add (t := 14) (hl.add (t := 15) (hl.add (t := 16) (hl.nil) rfl) rfl) rfl) rfl) rfl; clear hl; have hl := hl2; clear hl2
  refine then_normal ?_
  refine c_seq ?_
  refine c_cond hl rfl ?_ ?_
  · intro hc0
    try simp only [decide_eq_true_eq, decide_eq_false_iff_not, Bool.not_eq_true', Bool.not_eq_false', Bool.not_eq_true, Bool.not_eq_false, Bool.and_eq_true, Bool.or_eq_true, Bool.and_eq_false_iff, Bool.or_eq_false_iff, Bool.not_not, ne_eq, Int.not_lt, Int.not_le, Decidable.not_not, beq_iff_eq, bne_iff_ne] at hc0
    obtain ⟨x, hx⟩ : ∃ x, (tb.q r)[z.i]? = some x := ⟨_, List.getElem?_eq_getElem (by omega)⟩
    obtain ⟨b, c, junk, hv, hmb, hrd⟩ := row_get (hT.row r (by omega)) (mem_famR hpre (by omega)) hx
    rw [hpc] at hv
    injection hv with hv1 hv2 hv3
    subst hv1
    refine wp_skip ?_
    refine then_normal ?_
    refine c_seq ?_
    refine wp_block ?_
    refine c_seq ?_
    refine c_region ?_
    refine wl (wl_val hl rfl trivial (r_indexS hl rfl rfl slc108 (by omega) (by omega) (by first | (simp only [Int.reduceToNat]; rfl) | exact toNat_add1 _ | exact toNat_add2 _ _ | exact toNat_emod _ _ | exact Int.toNat_natCast _ | rfl)) ?_)
    clear hl a; intro a hl
    first | refine wl (w_loadA hl hh rfl trivial agg130 rfl (by repeat (first | exact find_head | apply find_tail)) (by first | (simp only [List.getElem?_cons_zero, List.getElem?_cons_succ, Value.cells, List.take_zero, List.take_succ_cons, List.take_nil, List.drop_zero, List.drop_succ_cons, List.drop_nil, List.length_cons, List.length_nil, List.cons_append, List.nil_append, List.append_nil, Nat.zero_add, Nat.add_zero, Nat.reduceAdd, Nat.reduceBEq, Nat.reduceEqDiff, Nat.ble, BEq.rfl, Bool.and_true, Bool.and_self, cond_true, beq_self_eq_true]; rfl)) (by first | rfl | (simp; done)) ?_) | refine wl (w_loadRA hl hh rfl trivial agg130 rfl hmb (by simp) hrd (rqc_len _) ?_) | refine wl (w_loadRA hl hh rfl trivial agg130 rfl hmT (by simp) (tab_row hT (by omega)) (arrL_length _ _) ?_)
    clear hl a; intro a hl
    refine wl (w_alloc hl hh rfl trivial zero130 rfl ?_)
    clear hl hh a w; intro k7 a w hl hh
    refine wl (w_storeA hl hh trivial agg130 rfl rfl (by repeat (first | exact find_head | apply find_tail)) (by first | rfl | (simp; done)) (by first | (simp; done) | (simp; omega)) (by first | rfl | (simp; done)) (by first | (simp only [setL, List.getElem?_cons_zero, List.getElem?_cons_succ, Value.cells, List.take_zero, List.take_succ_cons, List.take_nil, List.drop_zero, List.drop_succ_cons, List.drop_nil, List.length_cons, List.length_nil, List.cons_append, List.nil_append, List.append_nil, Nat.zero_add, Nat.add_zero, Nat.reduceAdd, Nat.reduceBEq, Nat.reduceEqDiff, Nat.ble, BEq.rfl, Bool.and_true, Bool.and_self, cond_true, beq_self_eq_true]; rfl)) ?_)
    clear hh w; intro w hh
    refine w_nil ?_
    have hl2 := hl.add (t := 5) (hl.add (t := 7) (hl.add (t := 13) (hl.add (t := 14) (hl.add (t := 15) (hl.nil) rfl) rfl) rfl) rfl) rfl; clear hl; have hl := hl2; clear hl2
    refine then_normal ?_
    refine c_region ?_
    refine wl (wl_val hl rfl trivial (r_move hl rfl) ?_)
    clear hl a; intro a hl
    refine wl (wl_val hl rfl trivial (r_field hl rfl fld130_0) ?_)
    clear hl a; intro a hl
    first | refine wl (w_load hl hh rfl trivial one57 rfl (by repeat (first | exact find_head | apply find_tail)) (by first | rfl) ?_) | refine wl (w_loadR hl hh rfl trivial one57 rfl hmT (by simp) (tab_held hT (by omega) (by omega)) ?_) | refine wl (w_loadR hl hh rfl trivial one57 rfl hmT (by simp) (tab_q (by omega)) ?_)
    clear hl a; intro a hl
    refine wl (w_buildSlice hl hh rfl trivial app114 zero57 rfl rfl rfl rfl rfl (by simp only [fillL, arrPl, List.range_succ, List.range_zero, List.map_cons, List.map_nil, List.map_append, List.nil_append, List.replicate_succ, List.replicate_zero, List.flatten_cons, List.flatten_nil, Nat.zero_mul, Nat.mul_one, Nat.one_mul, Nat.reduceMul, setL, List.getElem?_cons_zero, List.getElem?_cons_succ, Value.cells, List.take_zero, List.take_succ_cons, List.take_nil, List.drop_zero, List.drop_succ_cons, List.drop_nil, List.length_cons, List.length_nil, List.cons_append, List.nil_append, List.append_nil, Nat.zero_add, Nat.add_zero, Nat.reduceAdd, Nat.reduceBEq, Nat.reduceEqDiff, Nat.ble, BEq.rfl, Bool.and_true, Bool.and_self, cond_true, beq_self_eq_true]; rfl) ?_)
    clear hl hh a w; intro k22 a w hl hh
    refine wl (w_append (news := [.int .i64 (x.t : Int)]) hl hh rfl trivial app114 rfl rfl rfl hRz (by repeat (first | exact keeps_nil | apply keeps_cons (by repeat (first | exact find_head | apply find_tail)) (by first  | rfl) | exact keeps_self | exact keeps_left | exact keeps_right | exact keeps_swap | apply keeps_mv)) (hh.mem _ _ (Find.mem (by repeat (first | exact find_head | apply find_tail)))) rfl rfl rfl (by omega) (by omega) (by omega) (by decide) ?_)
    clear hl hh a w; intro rv2 E2 a w hR2 hl hh
    have hh3 := hh.comm; clear hh; have hh := hh3; clear hh3
    simp only [List.cons_append, List.nil_append] at hh
    refine wl (wl_val hl rfl trivial (r_assign hl rfl) ?_)
    clear hl a; intro a hl
    refine w_nil ?_
    have hl2 := hl.add (t := 5) (hl.add (t := 13) (hl.add (t := 14) (hl.add (t := 15) (hl.nil) rfl) rfl) rfl) rfl; clear hl; have hl := hl2; clear hl2
    refine blk_normal ?_
    refine then_normal ?_
    refine c_region ?_
    first | refine wl (wl_val hl rfl trivial (r_add hl rfl rfl (by simp only [Fits]; omega)) ?_) | refine wl (wl_val hl rfl trivial (r_addW hl rfl rfl) ?_)
    clear hl a; intro a hl
    refine wl (wl_val hl rfl trivial (r_move hl rfl) ?_)
    clear hl a; intro a hl
    refine w_nil ?_
    have hl2 := hl.add (t := 5) (hl.add (t := 13) (hl.add (t := 14) (hl.add (t := 15) (hl.nil) rfl) rfl) rfl) rfl; clear hl; have hl := hl2; clear hl2
    refine then_normal ?_
    refine ⟨⟨rv2, E2, z.i + 1⟩, (by simp only; omega), ⟨by simp only; omega, row_take1 hR2 hx⟩, hl.addE (t := 15) (hl.addE (t := 5) (hl.addE (t := 13) (hl.addE (t := 14) (hl.nil) rfl (by first | rfl | (congr 1; omega))) rfl (by first | rfl | (congr 1; omega))) rfl (by first | rfl | (congr 1; omega))) rfl (by first | rfl | (congr 1; omega)), hh.keep (by repeat (first | exact keeps_nil | apply keeps_cons (by repeat (first | exact find_head | apply find_tail)) (by first  | rfl) | exact keeps_self | exact keeps_left | exact keeps_right | exact keeps_swap | apply keeps_mv))⟩
  · intro hc0
    try simp only [decide_eq_true_eq, decide_eq_false_iff_not, Bool.not_eq_true', Bool.not_eq_false', Bool.not_eq_true, Bool.not_eq_false, Bool.and_eq_true, Bool.or_eq_true, Bool.and_eq_false_iff, Bool.or_eq_false_iff, Bool.not_not, ne_eq, Int.not_lt, Int.not_le, Decidable.not_not, beq_iff_eq, bne_iff_ne] at hc0
    have hi16 : z.i = (tb.q r).length := by omega
    rw [hi16, List.take_of_length_le (by simp)] at hRz
    refine wp_exit ?_
    refine then_exit ?_
    refine then_exit ?_
    refine blk_exit ?_
    refine then_normal ?_
    refine c_seq ?_
    refine c_region ?_
    refine wl (wl_val hl rfl trivial (r_move hl rfl) ?_)
    clear hl a; intro a hl
    refine wl (wl_val hl rfl trivial (r_assign hl rfl) ?_)
    clear hl a; intro a hl
    refine w_nil ?_
    have hl2 := hl.add (t := 4) (hl.nil) rfl; clear hl; have hl := hl2; clear hl2
    refine then_normal ?_
    refine wp_ret ?_
    refine f_ret1 (F' := z.E) hl hh rfl rfl (by repeat (first | exact keeps_nil | apply keeps_cons (by repeat (first | exact find_head | apply find_tail)) (by first  | rfl) | exact keeps_self | exact keeps_left | exact keeps_right | exact keeps_swap | apply keeps_mv)) ?_
    exact hRz

set_option maxHeartbeats 2000000 in
theorem waitingOn_spec {tb : Tab} {f : Nat → Value} {E : Nat → List (Nat × Obj)} (hT : TabF tb f E) (bt : Nat) (hI : TI tb) (t : Nat) : SpK Tryz.prog 54 #[.pointer (some ⟨bt, 0, none⟩), .int .i64 (t : Int)] (Mem (tbL bt f E)) [] (fun v F' => v = waitV (waitOn tb t 20) ∧ F' = []) := by
  refine f_enter (args := [.pointer (some ⟨bt, 0, none⟩), .int .i64 (t : Int)]) Tryz.func54 rfl Tryz.ntmps54 rfl ?_
  intro w0 w a hpre hl hh
  have hmT := hpre _ _ (List.mem_cons_self ..)
  
  simp only [slotsFrom, Nat.reduceAdd] at hl
  refine c_seq ?_
  refine c_region ?_
  refine wl (wl_val hl rfl trivial (r_assign hl rfl) ?_)
  clear hl a; intro a hl
  refine wl (wl_val hl rfl trivial (r_assign hl rfl) ?_)
  clear hl a; intro a hl
  refine w_nil ?_
  have hl2 := hl.add (t := 0) (hl.add (t := 1) (hl.nil) rfl) rfl; clear hl; have hl := hl2; clear hl2
  refine then_normal ?_
  refine c_seq ?_
  refine c_seq ?_
  refine c_region ?_
  refine wl (wl_val hl rfl trivial (r_move hl rfl) ?_)
  clear hl a; intro a hl
  refine w_nil ?_
  have hl2 := hl.add (t := 0) (hl.add (t := 1) (hl.add (t := 9) (hl.nil) rfl) rfl) rfl; clear hl; have hl := hl2; clear hl2
  refine then_normal ?_
  refine wp_block ?_
  obtain ⟨KS0, hKS0, hk⟩ := (hl.add (t := 0) (hl.add (t := 1) (hl.nil) rfl) rfl).name
  obtain ⟨HS0, hHS0, hh2⟩ := hh.name (keeps_nil)
  refine c_loop (α := Nat) (fun i => 20 - i) (fun i a w => (i ≤ 20 ∧ waitOn tb t i = none) ∧ Sl 30 ([(9, .int .i64 (i : Int))] ++ KS0) a ∧ Has _ w0 ([] ++ HS0) w) 0 ⟨⟨by omega, rfl⟩, hl.addE (t := 9) (hk) rfl (by first | rfl), hh2⟩ ?_
  clear hk hh2 hl hh a w
  intro i a w hI
  obtain ⟨⟨hi, hwn⟩, hl, hh⟩ := hI
  subst hKS0; subst hHS0
  simp only [List.cons_append, List.nil_append, List.append_nil] at hl hh
  refine c_seq ?_
  refine c_region ?_
  refine wl (wl_val hl rfl trivial (r_lss hl rfl rfl) ?_)
  clear hl a; intro a hl
  refine w_nil ?_
  have hl2 := hl.add (t := 0) (hl.add (t := 1) (hl.add (t := 9) (hl.add (t := 10) (hl.nil) rfl) rfl) rfl) rfl; clear hl; have hl := hl2; clear hl2
  refine then_normal ?_
  refine c_seq ?_
  refine c_cond hl rfl ?_ ?_
  · intro hc0
    try simp only [decide_eq_true_eq, decide_eq_false_iff_not, Bool.not_eq_true', Bool.not_eq_false', Bool.not_eq_true, Bool.not_eq_false, Bool.and_eq_true, Bool.or_eq_true, Bool.and_eq_false_iff, Bool.or_eq_false_iff, Bool.not_not, ne_eq, Int.not_lt, Int.not_le, Decidable.not_not, beq_iff_eq, bne_iff_ne] at hc0
    refine wp_skip ?_
    refine then_normal ?_
    refine c_seq ?_
    refine wp_block ?_
    refine c_seq ?_
    refine c_region ?_
    refine wl (wl_val hl rfl trivial (r_move hl rfl) ?_)
    clear hl a; intro a hl
    refine wl (wl_val hl rfl trivial (r_assign hl rfl) ?_)
    clear hl a; intro a hl
    refine w_nil ?_
    have hl2 := hl.add (t := 0) (hl.add (t := 1) (hl.add (t := 6) (hl.add (t := 9) (hl.nil) rfl) rfl) rfl) rfl; clear hl; have hl := hl2; clear hl2
    refine then_normal ?_
    refine c_seq ?_
    refine c_region ?_
    refine wl (wl_val hl rfl trivial (r_move hl rfl) ?_)
    clear hl a; intro a hl
    refine wl (wl_val hl rfl trivial (r_move hl rfl) ?_)
    clear hl a; intro a hl
    refine wl (wl_val hl rfl trivial (r_nilCheck hl rfl) ?_)
    clear hl a; intro a hl
    refine wl (wl_val hl rfl trivial (r_field hl rfl fld111_1) ?_)
    clear hl a; intro a hl
    refine wl (wl_val hl rfl trivial (r_indexA hl rfl rfl arr109 (by omega) (by omega) (by first | (simp only [Int.reduceToNat]; rfl) | exact toNat_add1 _ | exact toNat_add2 _ _ | exact toNat_emod _ _ | exact Int.toNat_natCast _ | rfl)) ?_)
    clear hl a; intro a hl
    first | refine wl (w_load hl hh rfl trivial one108 rfl (by repeat (first | exact find_head | apply find_tail)) (by first | rfl) ?_) | refine wl (w_loadR hl hh rfl trivial one108 rfl hmT (by simp) (tab_held hT (by omega) (by omega)) ?_) | refine wl (w_loadR hl hh rfl trivial one108 rfl hmT (by simp) (tab_q (by omega)) ?_)
    clear hl a; intro a hl
    obtain ⟨p9, c9, hpc⟩ := row_val (hT.row i (by omega))
    rw [hpc] at hl
    refine wl (wl_val hl rfl trivial (r_lenS hl rfl slc108) ?_)
    clear hl a; intro a hl
    refine wl (wl_val hl rfl trivial (r_move hl rfl) ?_)
    clear hl a; intro a hl
    refine w_nil ?_
    have hl2 := hl.add (t := 0) (hl.add (t := 1) (hl.add (t := 6) (hl.add (t := 9) (hl.add (t := 17) (hl.add (t := 18) (hl.add (t := 19) (hl.nil) rfl) rfl) rfl) rfl) rfl) rfl) rfl; clear hl; have hl := hl2; clear hl2
    refine then_normal ?_
    refine wp_block ?_
    obtain ⟨KS1, hKS1, hk⟩ := (hl.add (t := 0) (hl.add (t := 1) (hl.add (t := 6) (hl.add (t := 9) (hl.add (t := 17) (hl.add (t := 18) (hl.nil) rfl) rfl) rfl) rfl) rfl) rfl).name
    obtain ⟨HS1, hHS1, hh2⟩ := hh.name (keeps_nil)
    refine c_loop (α := Nat) (fun j => (tb.q i).length - j) (fun j a w => (j ≤ (tb.q i).length ∧ ((tb.q i).take j).any (fun x => x.t == t) = false) ∧ Sl 30 ([(19, .int .i64 (j : Int))] ++ KS1) a ∧ Has _ w0 ([] ++ HS1) w) 0 ⟨⟨by omega, rfl⟩, hl.addE (t := 19) (hk) rfl (by first | rfl), hh2⟩ ?_
    clear hk hh2 hl hh a w
    intro j a w hI
    obtain ⟨⟨hj, hja⟩, hl, hh⟩ := hI
    subst hKS1; subst hHS1
    simp only [List.cons_append, List.nil_append, List.append_nil] at hl hh
    have hq9 := hI.len i (by omega)
    refine c_seq ?_
    refine c_region ?_
    refine wl (wl_val hl rfl trivial (r_lss hl rfl rfl) ?_)
    clear hl a; intro a hl
    refine w_nil ?_
    have hl2 := hl.add (t := 0) (hl.add (t := 1) (hl.add (t := 6) (hl.add (t := 9) (hl.add (t := 17) (hl.add (t := 18) (hl.add (t := 19) (hl.add (t := 20) (hl.nil) rfl) rfl) rfl) rfl) rfl) rfl) rfl) rfl; clear hl; have hl := hl2; clear hl2
    refine then_normal ?_
    refine c_seq ?_
    refine c_cond hl rfl ?_ ?_
    · intro hc1
      try simp only [decide_eq_true_eq, decide_eq_false_iff_not, Bool.not_eq_true', Bool.not_eq_false', Bool.not_eq_true, Bool.not_eq_false, Bool.and_eq_true, Bool.or_eq_true, Bool.and_eq_false_iff, Bool.or_eq_false_iff, Bool.not_not, ne_eq, Int.not_lt, Int.not_le, Decidable.not_not, beq_iff_eq, bne_iff_ne] at hc1
      obtain ⟨x, hx⟩ : ∃ x, (tb.q i)[j]? = some x := ⟨_, List.getElem?_eq_getElem (by omega)⟩
      obtain ⟨b, c, junk, hv, hmb, hrd⟩ := row_get (hT.row i (by omega)) (mem_famR hpre (by omega)) hx
      rw [hpc] at hv
      injection hv with hv1 hv2 hv3
      subst hv1
      refine wp_skip ?_
      refine then_normal ?_
      refine c_seq ?_
      refine wp_block ?_
      refine c_seq ?_
      refine c_region ?_
      refine wl (wl_val hl rfl trivial (r_indexS hl rfl rfl slc108 (by omega) (by omega) (by first | (simp only [Int.reduceToNat]; rfl) | exact toNat_add1 _ | exact toNat_add2 _ _ | exact toNat_emod _ _ | exact Int.toNat_natCast _ | rfl)) ?_)
      clear hl a; intro a hl
      first | refine wl (w_loadA hl hh rfl trivial agg130 rfl (by repeat (first | exact find_head | apply find_tail)) (by first | (simp only [List.getElem?_cons_zero, List.getElem?_cons_succ, Value.cells, List.take_zero, List.take_succ_cons, List.take_nil, List.drop_zero, List.drop_succ_cons, List.drop_nil, List.length_cons, List.length_nil, List.cons_append, List.nil_append, List.append_nil, Nat.zero_add, Nat.add_zero, Nat.reduceAdd, Nat.reduceBEq, Nat.reduceEqDiff, Nat.ble, BEq.rfl, Bool.and_true, Bool.and_self, cond_true, beq_self_eq_true]; rfl)) (by first | rfl | (simp; done)) ?_) | refine wl (w_loadRA hl hh rfl trivial agg130 rfl hmb (by simp) hrd (rqc_len _) ?_) | refine wl (w_loadRA hl hh rfl trivial agg130 rfl hmT (by simp) (tab_row hT (by omega)) (arrL_length _ _) ?_)
      clear hl a; intro a hl
      refine wl (w_alloc hl hh rfl trivial zero130 rfl ?_)
      clear hl hh a w; intro k8 a w hl hh
      refine wl (w_storeA hl hh trivial agg130 rfl rfl (by repeat (first | exact find_head | apply find_tail)) (by first | rfl | (simp; done)) (by first | (simp; done) | (simp; omega)) (by first | rfl | (simp; done)) (by first | (simp only [setL, List.getElem?_cons_zero, List.getElem?_cons_succ, Value.cells, List.take_zero, List.take_succ_cons, List.take_nil, List.drop_zero, List.drop_succ_cons, List.drop_nil, List.length_cons, List.length_nil, List.cons_append, List.nil_append, List.append_nil, Nat.zero_add, Nat.add_zero, Nat.reduceAdd, Nat.reduceBEq, Nat.reduceEqDiff, Nat.ble, BEq.rfl, Bool.and_true, Bool.and_self, cond_true, beq_self_eq_true]; rfl)) ?_)
      clear hh w; intro w hh
      refine w_nil ?_
      have hl2 := hl.add (t := 0) (hl.add (t := 1) (hl.add (t := 6) (hl.add (t := 8) (hl.add (t := 9) (hl.add (t := 17) (hl.add (t := 18) (hl.add (t := 19) (hl.nil) rfl) rfl) rfl) rfl) rfl) rfl) rfl) rfl; clear hl; have hl := hl2; clear hl2
      refine then_normal ?_
      refine c_seq ?_
      refine c_region ?_
      refine wl (wl_val hl rfl trivial (r_field hl rfl fld130_0) ?_)
      clear hl a; intro a hl
      first | refine wl (w_load hl hh rfl trivial one57 rfl (by repeat (first | exact find_head | apply find_tail)) (by first | rfl) ?_) | refine wl (w_loadR hl hh rfl trivial one57 rfl hmT (by simp) (tab_held hT (by omega) (by omega)) ?_) | refine wl (w_loadR hl hh rfl trivial one57 rfl hmT (by simp) (tab_q (by omega)) ?_)
      clear hl a; intro a hl
      refine wl (wl_val hl rfl trivial (r_move hl rfl) ?_)
      clear hl a; intro a hl
      refine wl (wl_val hl rfl trivial (r_eql hl rfl rfl) ?_)
      clear hl a; intro a hl
      refine w_nil ?_
      have hl2 := hl.add (t := 0) (hl.add (t := 1) (hl.add (t := 6) (hl.add (t := 9) (hl.add (t := 17) (hl.add (t := 18) (hl.add (t := 19) (hl.add (t := 26) (hl.nil) rfl) rfl) rfl) rfl) rfl) rfl) rfl) rfl; clear hl; have hl := hl2; clear hl2
      refine then_normal ?_
      refine c_cond hl rfl ?_ ?_
      · intro hc2
        try simp only [decide_eq_true_eq, decide_eq_false_iff_not, Bool.not_eq_true', Bool.not_eq_false', Bool.not_eq_true, Bool.not_eq_false, Bool.and_eq_true, Bool.or_eq_true, Bool.and_eq_false_iff, Bool.or_eq_false_iff, Bool.not_not, ne_eq, Int.not_lt, Int.not_le, Decidable.not_not, beq_iff_eq, bne_iff_ne] at hc2
        refine c_seq ?_
        refine c_region ?_
        refine wl (wl_val hl rfl trivial (r_move hl rfl) ?_)
        clear hl a; intro a hl
        refine wl (wl_val hl rfl trivial (r_assign hl rfl) ?_)
        clear hl a; intro a hl
        refine wl (wl_val hl rfl trivial (r_assign hl rfl) ?_)
        clear hl a; intro a hl
        refine w_nil ?_
        have hl2 := hl.add (t := 4) (hl.add (t := 5) (hl.nil) rfl) rfl; clear hl; have hl := hl2; clear hl2
        refine then_normal ?_
        refine wp_ret ?_
        refine blk_ret ?_
        refine then_ret ?_
        refine then_ret ?_
        refine blk_ret ?_
        refine blk_ret ?_
        refine then_ret ?_
        refine then_ret ?_
        refine blk_ret ?_
        refine then_ret ?_
        refine f_ret2 (F' := []) hl hh rfl rfl rfl (by repeat (first | exact keeps_nil | apply keeps_cons (by repeat (first | exact find_head | apply find_tail)) (by first  | rfl) | exact keeps_self | exact keeps_left | exact keeps_right | exact keeps_swap | apply keeps_mv)) ?_
        exact ⟨by rw [waitOn_some hwn (any_at hx (by assumption)) (by omega)]; rfl, rfl⟩
      · intro hc2
        try simp only [decide_eq_true_eq, decide_eq_false_iff_not, Bool.not_eq_true', Bool.not_eq_false', Bool.not_eq_true, Bool.not_eq_false, Bool.and_eq_true, Bool.or_eq_true, Bool.and_eq_false_iff, Bool.or_eq_false_iff, Bool.not_not, ne_eq, Int.not_lt, Int.not_le, Decidable.not_not, beq_iff_eq, bne_iff_ne] at hc2
        refine wp_skip ?_
        refine blk_normal ?_
        refine then_normal ?_
        refine c_region ?_
        first | refine wl (wl_val hl rfl trivial (r_add hl rfl rfl (by simp only [Fits]; omega)) ?_) | refine wl (wl_val hl rfl trivial (r_addW hl rfl rfl) ?_)
        clear hl a; intro a hl
        refine wl (wl_val hl rfl trivial (r_move hl rfl) ?_)
        clear hl a; intro a hl
        refine w_nil ?_
        have hl2 := hl.add (t := 0) (hl.add (t := 1) (hl.add (t := 6) (hl.add (t := 9) (hl.add (t := 17) (hl.add (t := 18) (hl.add (t := 19) (hl.nil) rfl) rfl) rfl) rfl) rfl) rfl) rfl; clear hl; have hl := hl2; clear hl2
        refine then_normal ?_
        refine ⟨(j + 1), (by omega), ⟨by omega, any_take hx hja (by assumption)⟩, hl.addE (t := 19) (hl.addE (t := 0) (hl.addE (t := 1) (hl.addE (t := 6) (hl.addE (t := 9) (hl.addE (t := 17) (hl.addE (t := 18) (hl.nil) rfl (by first | rfl | (congr 1; omega))) rfl (by first | rfl | (congr 1; omega))) rfl (by first | rfl | (congr 1; omega))) rfl (by first | rfl | (congr 1; omega))) rfl (by first | rfl | (congr 1; omega))) rfl (by first | rfl | (congr 1; omega))) rfl (by first | rfl | (congr 1; omega)), hh.keep (by repeat (first | exact keeps_nil | apply keeps_cons (by repeat (first | exact find_head | apply find_tail)) (by first  | rfl) | exact keeps_self | exact keeps_left | exact keeps_right | exact keeps_swap | apply keeps_mv))⟩
    · intro hc1
      try simp only [decide_eq_true_eq, decide_eq_false_iff_not, Bool.not_eq_true', Bool.not_eq_false', Bool.not_eq_true, Bool.not_eq_false, Bool.and_eq_true, Bool.or_eq_true, Bool.and_eq_false_iff, Bool.or_eq_false_iff, Bool.not_not, ne_eq, Int.not_lt, Int.not_le, Decidable.not_not, beq_iff_eq, bne_iff_ne] at hc1
      refine wp_exit ?_
      refine then_exit ?_
      refine then_exit ?_
      refine blk_exit ?_
      refine blk_normal ?_
      refine then_normal ?_
      refine c_region ?_
      first | refine wl (wl_val hl rfl trivial (r_add hl rfl rfl (by simp only [Fits]; omega)) ?_) | refine wl (wl_val hl rfl trivial (r_addW hl rfl rfl) ?_)
      clear hl a; intro a hl
      refine wl (wl_val hl rfl trivial (r_move hl rfl) ?_)
      clear hl a; intro a hl
      refine w_nil ?_
      have hl2 := hl.add (t := 0) (hl.add (t := 1) (hl.add (t := 9) (hl.nil) rfl) rfl) rfl; clear hl; have hl := hl2; clear hl2
      refine then_normal ?_
      refine ⟨(i + 1), (by omega), ⟨by omega, waitOn_next hwn (any_all hja (by omega))⟩, hl.addE (t := 9) (hl.addE (t := 0) (hl.addE (t := 1) (hl.nil) rfl (by first | rfl | (congr 1; omega))) rfl (by first | rfl | (congr 1; omega))) rfl (by first | rfl | (congr 1; omega)), hh.keep (by repeat (first | exact keeps_nil | apply keeps_cons (by repeat (first | exact find_head | apply find_tail)) (by first  | rfl) | exact keeps_self | exact keeps_left | exact keeps_right | exact keeps_swap | apply keeps_mv))⟩
  · intro hc0
    try simp only [decide_eq_true_eq, decide_eq_false_iff_not, Bool.not_eq_true', Bool.not_eq_false', Bool.not_eq_true, Bool.not_eq_false, Bool.and_eq_true, Bool.or_eq_true, Bool.and_eq_false_iff, Bool.or_eq_false_iff, Bool.not_not, ne_eq, Int.not_lt, Int.not_le, Decidable.not_not, beq_iff_eq, bne_iff_ne] at hc0
    refine wp_exit ?_
    refine then_exit ?_
    refine then_exit ?_
    refine blk_exit ?_
    refine then_normal ?_
    refine c_seq ?_
    refine c_region ?_
    refine wl (wl_val hl rfl trivial (r_assign hl rfl) ?_)
    clear hl a; intro a hl
    refine wl (wl_val hl rfl trivial (r_assign hl rfl) ?_)
    clear hl a; intro a hl
    refine w_nil ?_
    have hl2 := hl.add (t := 4) (hl.add (t := 5) (hl.nil) rfl) rfl; clear hl; have hl := hl2; clear hl2
    refine then_normal ?_
    refine wp_ret ?_
    refine f_ret2 (F' := []) hl hh rfl rfl rfl (by repeat (first | exact keeps_nil | apply keeps_cons (by repeat (first | exact find_head | apply find_tail)) (by first  | rfl) | exact keeps_self | exact keeps_left | exact keeps_right | exact keeps_swap | apply keeps_mv)) ?_
    exact ⟨by rw [show i = 20 by omega] at hwn; rw [hwn]; rfl, rfl⟩

set_option maxHeartbeats 2000000 in
theorem heldBy_spec {tb : Tab} {f : Nat → Value} {E : Nat → List (Nat × Obj)} (hT : TabF tb f E) (bt : Nat) (t : Nat) (ht : t < 16) : SpK Tryz.prog 49 #[.pointer (some ⟨bt, 0, none⟩), .int .i64 (t : Int)] (Mem (tbL bt f E)) [] (fun v F' => Row v (heldBy tb t).length (fl tkc (heldBy tb t)) 1 68 F') := by
  refine f_enter (args := [.pointer (some ⟨bt, 0, none⟩), .int .i64 (t : Int)]) Tryz.func49 rfl Tryz.ntmps49 rfl ?_
  intro w0 w a hpre hl hh
  have hmT := hpre _ _ (List.mem_cons_self ..)
  
  simp only [slotsFrom, Nat.reduceAdd] at hl
  refine c_seq ?_
  refine c_region ?_
  refine wl (wl_val hl rfl trivial (r_assign hl rfl) ?_)
  clear hl a; intro a hl
  refine w_nil ?_
  have hl2 := hl.add (t := 0) (hl.add (t := 1) (hl.nil) rfl) rfl; clear hl; have hl := hl2; clear hl2
  refine then_normal ?_
  refine c_seq ?_
  refine c_region ?_
  refine wl (wl_val hl rfl trivial (r_assign hl rfl) ?_)
  clear hl a; intro a hl
  refine w_nil ?_
  have hl2 := hl.add (t := 0) (hl.add (t := 1) (hl.add (t := 5) (hl.nil) rfl) rfl) rfl; clear hl; have hl := hl2; clear hl2
  refine then_normal ?_
  refine c_seq ?_
  refine c_seq ?_
  refine c_region ?_
  refine wl (wl_val hl rfl trivial (r_move hl rfl) ?_)
  clear hl a; intro a hl
  refine w_nil ?_
  have hl2 := hl.add (t := 0) (hl.add (t := 1) (hl.add (t := 5) (hl.add (t := 7) (hl.nil) rfl) rfl) rfl) rfl; clear hl; have hl := hl2; clear hl2
  refine then_normal ?_
  refine wp_block ?_
  obtain ⟨KS0, hKS0, hk⟩ := (hl.add (t := 0) (hl.add (t := 1) (hl.nil) rfl) rfl).name
  obtain ⟨HS0, hHS0, hh2⟩ := hh.nameT (A := []) (U := []) ((by repeat (first | exact keeps_nil | exact keeps_self | exact keeps_swap | apply keeps_mv)))
  refine c_loop (α := WS5) (fun z => 20 - z.i) (fun z a w => (z.i ≤ 20 ∧ Row z.v ((List.range z.i).filter (fun r => decide (0 < tb.held r t))).length (fl tkc ((List.range z.i).filter (fun r => decide (0 < tb.held r t)))) 1 68 z.E) ∧ Sl 25 ([(7, .int .i64 (z.i : Int)), (5, z.v)] ++ KS0) a ∧ Has _ w0 ([] ++ (HS0 ++ z.E)) w) ⟨.slice none 0 0, [], 0⟩ ⟨⟨Nat.zero_le _, Row.nil _ _⟩, hl.addE (t := 7) (hl.addE (t := 5) (hk) rfl (by first | rfl)) rfl (by first | rfl), hh2⟩ ?_
  clear hk hh2 hl hh a w
  intro z a w hI
  obtain ⟨⟨hzi, hRz⟩, hl, hh⟩ := hI
  subst hKS0; subst hHS0
  simp only [List.cons_append, List.nil_append, List.append_nil] at hl hh
  have hfl := filter_len (fun r => decide (0 < tb.held r t)) z.i
  refine c_seq ?_
  refine c_region ?_
  refine wl (wl_val hl rfl trivial (r_lss hl rfl rfl) ?_)
  clear hl a; intro a hl
  refine w_nil ?_
  have hl2 := hl.add (t := 0) (hl.add (t := 1) (hl.add (t := 5) (hl.add (t := 7) (hl.add (t := 8) (hl.nil) rfl) rfl) rfl) rfl) rfl; clear hl; have hl := hl2; clear hl2
  refine then_normal ?_
  refine c_seq ?_
  refine c_cond hl rfl ?_ ?_
  · intro hc0
    try simp only [decide_eq_true_eq, decide_eq_false_iff_not, Bool.not_eq_true', Bool.not_eq_false', Bool.not_eq_true, Bool.not_eq_false, Bool.and_eq_true, Bool.or_eq_true, Bool.and_eq_false_iff, Bool.or_eq_false_iff, Bool.not_not, ne_eq, Int.not_lt, Int.not_le, Decidable.not_not, beq_iff_eq, bne_iff_ne] at hc0
    refine wp_skip ?_
    refine then_normal ?_
    refine c_seq ?_
    refine wp_block ?_
    refine c_seq ?_
    refine c_region ?_
    refine wl (wl_val hl rfl trivial (r_move hl rfl) ?_)
    clear hl a; intro a hl
    refine wl (wl_val hl rfl trivial (r_assign hl rfl) ?_)
    clear hl a; intro a hl
    refine w_nil ?_
    have hl2 := hl.add (t := 0) (hl.add (t := 1) (hl.add (t := 5) (hl.add (t := 6) (hl.add (t := 7) (hl.nil) rfl) rfl) rfl) rfl) rfl; clear hl; have hl := hl2; clear hl2
    refine then_normal ?_
    refine c_seq ?_
    refine c_region ?_
    refine wl (wl_val hl rfl trivial (r_move hl rfl) ?_)
    clear hl a; intro a hl
    refine wl (wl_val hl rfl trivial (r_move hl rfl) ?_)
    clear hl a; intro a hl
    refine wl (wl_val hl rfl trivial (r_move hl rfl) ?_)
    clear hl a; intro a hl
    refine wl (wl_val hl rfl trivial (r_nilCheck hl rfl) ?_)
    clear hl a; intro a hl
    refine wl (wl_val hl rfl trivial (r_field hl rfl fld111_0) ?_)
    clear hl a; intro a hl
    refine wl (wl_val hl rfl trivial (r_indexA hl rfl rfl arr107 (by omega) (by omega) (by first | (simp only [Int.reduceToNat]; rfl) | exact toNat_add1 _ | exact toNat_add2 _ _ | exact toNat_emod _ _ | exact Int.toNat_natCast _ | rfl)) ?_)
    clear hl a; intro a hl
    refine wl (wl_val hl rfl trivial (r_indexA hl rfl rfl arr106 (by omega) (by omega) (by first | (simp only [Int.reduceToNat]; rfl) | exact toNat_add1 _ | exact toNat_add2 _ _ | exact toNat_emod _ _ | exact Int.toNat_natCast _ | rfl)) ?_)
    clear hl a; intro a hl
    first | refine wl (w_load hl hh rfl trivial one3 rfl (by repeat (first | exact find_head | apply find_tail)) (by first | rfl) ?_) | refine wl (w_loadR hl hh rfl trivial one3 rfl hmT (by simp) (tab_held hT (by omega) (by omega)) ?_) | refine wl (w_loadR hl hh rfl trivial one3 rfl hmT (by simp) (tab_q (by omega)) ?_)
    clear hl a; intro a hl
    refine wl (wl_val hl rfl trivial (r_gtr hl rfl rfl) ?_)
    clear hl a; intro a hl
    refine w_nil ?_
    have hl2 := hl.add (t := 0) (hl.add (t := 1) (hl.add (t := 5) (hl.add (t := 6) (hl.add (t := 7) (hl.add (t := 18) (hl.nil) rfl) rfl) rfl) rfl) rfl) rfl; clear hl; have hl := hl2; clear hl2
    refine then_normal ?_
    refine c_cond hl rfl ?_ ?_
    · intro hc1
      try simp only [decide_eq_true_eq, decide_eq_false_iff_not, Bool.not_eq_true', Bool.not_eq_false', Bool.not_eq_true, Bool.not_eq_false, Bool.and_eq_true, Bool.or_eq_true, Bool.and_eq_false_iff, Bool.or_eq_false_iff, Bool.not_not, ne_eq, Int.not_lt, Int.not_le, Decidable.not_not, beq_iff_eq, bne_iff_ne] at hc1
      refine c_region ?_
      refine wl (wl_val hl rfl trivial (r_move hl rfl) ?_)
      clear hl a; intro a hl
      refine wl (wl_val hl rfl trivial (r_move hl rfl) ?_)
      clear hl a; intro a hl
      refine wl (w_buildSlice hl hh rfl trivial app124 zero68 rfl rfl rfl rfl rfl (by simp only [fillL, arrPl, List.range_succ, List.range_zero, List.map_cons, List.map_nil, List.map_append, List.nil_append, List.replicate_succ, List.replicate_zero, List.flatten_cons, List.flatten_nil, Nat.zero_mul, Nat.mul_one, Nat.one_mul, Nat.reduceMul, setL, List.getElem?_cons_zero, List.getElem?_cons_succ, Value.cells, List.take_zero, List.take_succ_cons, List.take_nil, List.drop_zero, List.drop_succ_cons, List.drop_nil, List.length_cons, List.length_nil, List.cons_append, List.nil_append, List.append_nil, Nat.zero_add, Nat.add_zero, Nat.reduceAdd, Nat.reduceBEq, Nat.reduceEqDiff, Nat.ble, BEq.rfl, Bool.and_true, Bool.and_self, cond_true, beq_self_eq_true]; rfl) ?_)
      clear hl hh a w; intro k21 a w hl hh
      refine wl (w_append (news := [.int .i64 (z.i : Int)]) hl hh rfl trivial app124 rfl rfl rfl hRz (by repeat (first | exact keeps_nil | apply keeps_cons (by repeat (first | exact find_head | apply find_tail)) (by first  | rfl) | exact keeps_self | exact keeps_left | exact keeps_right | exact keeps_swap | apply keeps_mv)) (hh.mem _ _ (Find.mem (by repeat (first | exact find_head | apply find_tail)))) rfl rfl rfl (by omega) (by omega) (by omega) (by decide) ?_)
      clear hl hh a w; intro rv2 E2 a w hR2 hl hh
      have hh3 := hh.comm; clear hh; have hh := hh3; clear hh3
      simp only [List.cons_append, List.nil_append] at hh
      refine wl (wl_val hl rfl trivial (r_assign hl rfl) ?_)
      clear hl a; intro a hl
      refine w_nil ?_
      have hl2 := hl.add (t := 0) (hl.add (t := 1) (hl.add (t := 5) (hl.add (t := 7) (hl.nil) rfl) rfl) rfl) rfl; clear hl; have hl := hl2; clear hl2
      refine blk_normal ?_
      refine then_normal ?_
      refine c_region ?_
      first | refine wl (wl_val hl rfl trivial (r_add hl rfl rfl (by simp only [Fits]; omega)) ?_) | refine wl (wl_val hl rfl trivial (r_addW hl rfl rfl) ?_)
      clear hl a; intro a hl
      refine wl (wl_val hl rfl trivial (r_move hl rfl) ?_)
      clear hl a; intro a hl
      refine w_nil ?_
      have hl2 := hl.add (t := 0) (hl.add (t := 1) (hl.add (t := 5) (hl.add (t := 7) (hl.nil) rfl) rfl) rfl) rfl; clear hl; have hl := hl2; clear hl2
      refine then_normal ?_
      first | refine ⟨⟨rv2, E2, z.i + 1⟩, (by simp only; omega), ⟨by simp only; omega, row_take2 hR2 rfl (by assumption)⟩, hl.addE (t := 7) (hl.addE (t := 5) (hl.addE (t := 0) (hl.addE (t := 1) (hl.nil) rfl (by first | rfl | (congr 1; omega))) rfl (by first | rfl | (congr 1; omega))) rfl (by first | rfl | (congr 1; omega))) rfl (by first | rfl | (congr 1; omega)), hh.keep (by repeat (first | exact keeps_nil | apply keeps_cons (by repeat (first | exact find_head | apply find_tail)) (by first  | rfl) | exact keeps_self | exact keeps_left | exact keeps_right | exact keeps_swap | apply keeps_mv))⟩ | refine ⟨⟨z.v, z.E, z.i + 1⟩, (by simp only; omega), ⟨by simp only; omega, row_take3 hRz (by omega)⟩, hl.addE (t := 7) (hl.addE (t := 5) (hl.addE (t := 0) (hl.addE (t := 1) (hl.nil) rfl (by first | rfl | (congr 1; omega))) rfl (by first | rfl | (congr 1; omega))) rfl (by first | rfl | (congr 1; omega))) rfl (by first | rfl | (congr 1; omega)), hh.keep (by repeat (first | exact keeps_nil | apply keeps_cons (by repeat (first | exact find_head | apply find_tail)) (by first  | rfl) | exact keeps_self | exact keeps_left | exact keeps_right | exact keeps_swap | apply keeps_mv))⟩
    · intro hc1
      try simp only [decide_eq_true_eq, decide_eq_false_iff_not, Bool.not_eq_true', Bool.not_eq_false', Bool.not_eq_true, Bool.not_eq_false, Bool.and_eq_true, Bool.or_eq_true, Bool.and_eq_false_iff, Bool.or_eq_false_iff, Bool.not_not, ne_eq, Int.not_lt, Int.not_le, Decidable.not_not, beq_iff_eq, bne_iff_ne] at hc1
      refine wp_skip ?_
      refine blk_normal ?_
      refine then_normal ?_
      refine c_region ?_
      first | refine wl (wl_val hl rfl trivial (r_add hl rfl rfl (by simp only [Fits]; omega)) ?_) | refine wl (wl_val hl rfl trivial (r_addW hl rfl rfl) ?_)
      clear hl a; intro a hl
      refine wl (wl_val hl rfl trivial (r_move hl rfl) ?_)
      clear hl a; intro a hl
      refine w_nil ?_
      have hl2 := hl.add (t := 0) (hl.add (t := 1) (hl.add (t := 5) (hl.add (t := 7) (hl.nil) rfl) rfl) rfl) rfl; clear hl; have hl := hl2; clear hl2
      refine then_normal ?_
      first | refine ⟨⟨rv2, E2, z.i + 1⟩, (by simp only; omega), ⟨by simp only; omega, row_take2 hR2 rfl (by assumption)⟩, hl.addE (t := 7) (hl.addE (t := 5) (hl.addE (t := 0) (hl.addE (t := 1) (hl.nil) rfl (by first | rfl | (congr 1; omega))) rfl (by first | rfl | (congr 1; omega))) rfl (by first | rfl | (congr 1; omega))) rfl (by first | rfl | (congr 1; omega)), hh.keep (by repeat (first | exact keeps_nil | apply keeps_cons (by repeat (first | exact find_head | apply find_tail)) (by first  | rfl) | exact keeps_self | exact keeps_left | exact keeps_right | exact keeps_swap | apply keeps_mv))⟩ | refine ⟨⟨z.v, z.E, z.i + 1⟩, (by simp only; omega), ⟨by simp only; omega, row_take3 hRz (by omega)⟩, hl.addE (t := 7) (hl.addE (t := 5) (hl.addE (t := 0) (hl.addE (t := 1) (hl.nil) rfl (by first | rfl | (congr 1; omega))) rfl (by first | rfl | (congr 1; omega))) rfl (by first | rfl | (congr 1; omega))) rfl (by first | rfl | (congr 1; omega)), hh.keep (by repeat (first | exact keeps_nil | apply keeps_cons (by repeat (first | exact find_head | apply find_tail)) (by first  | rfl) | exact keeps_self | exact keeps_left | exact keeps_right | exact keeps_swap | apply keeps_mv))⟩
  · intro hc0
    try simp only [decide_eq_true_eq, decide_eq_false_iff_not, Bool.not_eq_true', Bool.not_eq_false', Bool.not_eq_true, Bool.not_eq_false, Bool.and_eq_true, Bool.or_eq_true, Bool.and_eq_false_iff, Bool.or_eq_false_iff, Bool.not_not, ne_eq, Int.not_lt, Int.not_le, Decidable.not_not, beq_iff_eq, bne_iff_ne] at hc0
    have hi20 : z.i = 20 := by omega
    rw [hi20] at hRz
    refine wp_exit ?_
    refine then_exit ?_
    refine then_exit ?_
    refine blk_exit ?_
    refine then_normal ?_
    refine c_seq ?_
    refine c_region ?_
    refine wl (wl_val hl rfl trivial (r_move hl rfl) ?_)
    clear hl a; intro a hl
    refine wl (wl_val hl rfl trivial (r_assign hl rfl) ?_)
    clear hl a; intro a hl
    refine w_nil ?_
    have hl2 := hl.add (t := 4) (hl.nil) rfl; clear hl; have hl := hl2; clear hl2
    refine then_normal ?_
    refine wp_ret ?_
    refine f_ret1 (F' := z.E) hl hh rfl rfl (by repeat (first | exact keeps_nil | apply keeps_cons (by repeat (first | exact find_head | apply find_tail)) (by first  | rfl) | exact keeps_self | exact keeps_left | exact keeps_right | exact keeps_swap | apply keeps_mv)) ?_
    exact hRz

set_option maxHeartbeats 2000000 in
theorem waitsFor_spec {tb : Tab} {f : Nat → Value} {E : Nat → List (Nat × Obj)} (hT : TabF tb f E) (bt : Nat) (hI : TI tb) : SpK Tryz.prog 27 #[.pointer (some ⟨bt, 0, none⟩)] (Mem (tbL bt f E)) [] (fun v F' => v = .agg ⟨mskA (wfN tb 20)⟩ ∧ F' = []) := by
  refine f_enter (args := [.pointer (some ⟨bt, 0, none⟩)]) Tryz.func27 rfl Tryz.ntmps27 rfl ?_
  intro w0 w a hpre hl hh
  have hmT := hpre _ _ (List.mem_cons_self ..)
  
  simp only [slotsFrom, Nat.reduceAdd] at hl
  refine c_seq ?_
  refine c_region ?_
  refine wl (w_alloc hl hh rfl trivial zero50 rfl ?_)
  clear hl hh a w; intro k2 a w hl hh
  refine w_nil ?_
  have hl2 := hl.add (t := 0) (hl.add (t := 2) (hl.nil) rfl) rfl; clear hl; have hl := hl2; clear hl2
  refine then_normal ?_
  refine c_seq ?_
  refine c_region ?_
  refine wl (w_alloc hl hh rfl trivial zero50 rfl ?_)
  clear hl hh a w; intro k3 a w hl hh
  refine w_nil ?_
  have hl2 := hl.add (t := 0) (hl.add (t := 2) (hl.add (t := 3) (hl.nil) rfl) rfl) rfl; clear hl; have hl := hl2; clear hl2
  refine then_normal ?_
  refine c_seq ?_
  refine c_seq ?_
  refine c_region ?_
  refine wl (wl_val hl rfl trivial (r_move hl rfl) ?_)
  clear hl a; intro a hl
  refine w_nil ?_
  have hl2 := hl.add (t := 0) (hl.add (t := 2) (hl.add (t := 3) (hl.add (t := 7) (hl.nil) rfl) rfl) rfl) rfl; clear hl; have hl := hl2; clear hl2
  refine then_normal ?_
  refine wp_block ?_
  obtain ⟨KS0, hKS0, hk⟩ := (hl.add (t := 0) (hl.add (t := 2) (hl.add (t := 3) (hl.nil) rfl) rfl) rfl).name
  obtain ⟨HS0, hHS0, hh2⟩ := hh.name (keeps_cons (b := k3) (o' := C (mskA (wfN tb 0)) 50) (by repeat (first | exact find_head | apply find_tail)) (by first | exact mskA_zero | rfl) (keeps_nil))
  refine c_loop (α := Nat) (fun i => 20 - i) (fun i a w => (i ≤ 20) ∧ Sl 34 ([(7, .int .i64 (i : Int))] ++ KS0) a ∧ Has _ w0 ([(k3, C (mskA (wfN tb i)) 50)] ++ HS0) w) 0 ⟨(by omega), hl.addE (t := 7) (hk) rfl (by first | rfl), hh2⟩ ?_
  clear hk hh2 hl hh a w
  intro i a w hI
  obtain ⟨hi, hl, hh⟩ := hI
  subst hKS0; subst hHS0
  simp only [List.cons_append, List.nil_append, List.append_nil] at hl hh
  refine c_seq ?_
  refine c_region ?_
  refine wl (wl_val hl rfl trivial (r_lss hl rfl rfl) ?_)
  clear hl a; intro a hl
  refine w_nil ?_
  have hl2 := hl.add (t := 0) (hl.add (t := 2) (hl.add (t := 3) (hl.add (t := 7) (hl.add (t := 8) (hl.nil) rfl) rfl) rfl) rfl) rfl; clear hl; have hl := hl2; clear hl2
  refine then_normal ?_
  refine c_seq ?_
  refine c_cond hl rfl ?_ ?_
  · intro hc0
    try simp only [decide_eq_true_eq, decide_eq_false_iff_not, Bool.not_eq_true', Bool.not_eq_false', Bool.not_eq_true, Bool.not_eq_false, Bool.and_eq_true, Bool.or_eq_true, Bool.and_eq_false_iff, Bool.or_eq_false_iff, Bool.not_not, ne_eq, Int.not_lt, Int.not_le, Decidable.not_not, beq_iff_eq, bne_iff_ne] at hc0
    refine wp_skip ?_
    refine then_normal ?_
    refine c_seq ?_
    refine wp_block ?_
    refine c_seq ?_
    refine c_region ?_
    refine wl (wl_val hl rfl trivial (r_move hl rfl) ?_)
    clear hl a; intro a hl
    refine wl (wl_val hl rfl trivial (r_assign hl rfl) ?_)
    clear hl a; intro a hl
    refine w_nil ?_
    have hl2 := hl.add (t := 0) (hl.add (t := 2) (hl.add (t := 3) (hl.add (t := 4) (hl.add (t := 7) (hl.nil) rfl) rfl) rfl) rfl) rfl; clear hl; have hl := hl2; clear hl2
    refine then_normal ?_
    refine c_seq ?_
    refine c_region ?_
    refine wl (wl_val hl rfl trivial (r_move hl rfl) ?_)
    clear hl a; intro a hl
    refine wl (wl_val hl rfl trivial (r_move hl rfl) ?_)
    clear hl a; intro a hl
    refine wl (wl_val hl rfl trivial (r_nilCheck hl rfl) ?_)
    clear hl a; intro a hl
    refine wl (wl_val hl rfl trivial (r_field hl rfl fld111_1) ?_)
    clear hl a; intro a hl
    refine wl (wl_val hl rfl trivial (r_indexA hl rfl rfl arr109 (by omega) (by omega) (by first | (simp only [Int.reduceToNat]; rfl) | exact toNat_add1 _ | exact toNat_add2 _ _ | exact toNat_emod _ _ | exact Int.toNat_natCast _ | rfl)) ?_)
    clear hl a; intro a hl
    first | refine wl (w_load hl hh rfl trivial one108 rfl (by repeat (first | exact find_head | apply find_tail)) (by first | rfl | rfl) ?_) | refine wl (w_loadR hl hh rfl trivial one108 rfl hmT (by simp) (tab_held hT (by omega) (by omega)) ?_) | refine wl (w_loadR hl hh rfl trivial one108 rfl hmT (by simp) (tab_q (by omega)) ?_)
    clear hl a; intro a hl
    obtain ⟨p9, c9, hpc⟩ := row_val (hT.row i (by omega))
    rw [hpc] at hl
    refine wl (wl_val hl rfl trivial (r_lenS hl rfl slc108) ?_)
    clear hl a; intro a hl
    refine wl (wl_val hl rfl trivial (r_move hl rfl) ?_)
    clear hl a; intro a hl
    refine w_nil ?_
    have hl2 := hl.add (t := 0) (hl.add (t := 2) (hl.add (t := 3) (hl.add (t := 4) (hl.add (t := 7) (hl.add (t := 15) (hl.add (t := 16) (hl.add (t := 17) (hl.nil) rfl) rfl) rfl) rfl) rfl) rfl) rfl) rfl; clear hl; have hl := hl2; clear hl2
    refine then_normal ?_
    refine wp_block ?_
    obtain ⟨KS1, hKS1, hk⟩ := (hl.add (t := 0) (hl.add (t := 2) (hl.add (t := 3) (hl.add (t := 4) (hl.add (t := 7) (hl.add (t := 15) (hl.add (t := 16) (hl.nil) rfl) rfl) rfl) rfl) rfl) rfl) rfl).name
    obtain ⟨HS1, hHS1, hh2⟩ := hh.name (keeps_cons (b := k3) (o' := C (mskA (wfN tb i)) 50) (by repeat (first | exact find_head | apply find_tail)) (by first | rfl) (keeps_nil))
    refine c_loop (α := Nat) (fun j => (tb.q i).length - j) (fun j a w => (j ≤ (tb.q i).length) ∧ Sl 34 ([(17, .int .i64 (j : Int))] ++ KS1) a ∧ Has _ w0 ([(k3, C (mskA (((tb.q i).take j).foldl (wfS tb i) (wfN tb i))) 50)] ++ HS1) w) 0 ⟨(by omega), hl.addE (t := 17) (hk) rfl (by first | rfl), hh2⟩ ?_
    clear hk hh2 hl hh a w
    intro j a w hI
    obtain ⟨hj, hl, hh⟩ := hI
    subst hKS1; subst hHS1
    simp only [List.cons_append, List.nil_append, List.append_nil] at hl hh
    have hq9 := hI.len i (by omega)
    refine c_seq ?_
    refine c_region ?_
    refine wl (wl_val hl rfl trivial (r_lss hl rfl rfl) ?_)
    clear hl a; intro a hl
    refine w_nil ?_
    have hl2 := hl.add (t := 0) (hl.add (t := 2) (hl.add (t := 3) (hl.add (t := 4) (hl.add (t := 7) (hl.add (t := 15) (hl.add (t := 16) (hl.add (t := 17) (hl.add (t := 18) (hl.nil) rfl) rfl) rfl) rfl) rfl) rfl) rfl) rfl) rfl; clear hl; have hl := hl2; clear hl2
    refine then_normal ?_
    refine c_seq ?_
    refine c_cond hl rfl ?_ ?_
    · intro hc1
      try simp only [decide_eq_true_eq, decide_eq_false_iff_not, Bool.not_eq_true', Bool.not_eq_false', Bool.not_eq_true, Bool.not_eq_false, Bool.and_eq_true, Bool.or_eq_true, Bool.and_eq_false_iff, Bool.or_eq_false_iff, Bool.not_not, ne_eq, Int.not_lt, Int.not_le, Decidable.not_not, beq_iff_eq, bne_iff_ne] at hc1
      obtain ⟨x, hx⟩ : ∃ x, (tb.q i)[j]? = some x := ⟨_, List.getElem?_eq_getElem (by omega)⟩
      obtain ⟨b, c, junk, hv, hmb, hrd⟩ := row_get (hT.row i (by omega)) (mem_famR hpre (by omega)) hx
      rw [hpc] at hv
      injection hv with hv1 hv2 hv3
      subst hv1
      have hxt := hI.q i (by omega) x (List.mem_of_getElem? hx)
      refine wp_skip ?_
      refine then_normal ?_
      refine c_seq ?_
      refine wp_block ?_
      refine c_seq ?_
      refine c_region ?_
      refine wl (wl_val hl rfl trivial (r_indexS hl rfl rfl slc108 (by omega) (by omega) (by first | (simp only [Int.reduceToNat]; rfl) | exact toNat_add1 _ | exact toNat_add2 _ _ | exact toNat_emod _ _ | exact Int.toNat_natCast _ | rfl)) ?_)
      clear hl a; intro a hl
      first | refine wl (w_loadA hl hh rfl trivial agg130 rfl (by repeat (first | exact find_head | apply find_tail)) (by first | (simp only [List.getElem?_cons_zero, List.getElem?_cons_succ, Value.cells, List.take_zero, List.take_succ_cons, List.take_nil, List.drop_zero, List.drop_succ_cons, List.drop_nil, List.length_cons, List.length_nil, List.cons_append, List.nil_append, List.append_nil, Nat.zero_add, Nat.add_zero, Nat.reduceAdd, Nat.reduceBEq, Nat.reduceEqDiff, Nat.ble, BEq.rfl, Bool.and_true, Bool.and_self, cond_true, beq_self_eq_true]; rfl)) (by first | rfl | (simp; done)) ?_) | refine wl (w_loadRA hl hh rfl trivial agg130 rfl hmb (by simp) hrd (rqc_len _) ?_) | refine wl (w_loadRA hl hh rfl trivial agg130 rfl hmT (by simp) (tab_row hT (by omega)) (arrL_length _ _) ?_)
      clear hl a; intro a hl
      refine wl (w_alloc hl hh rfl trivial zero130 rfl ?_)
      clear hl hh a w; intro k6 a w hl hh
      refine wl (w_storeA hl hh trivial agg130 rfl rfl (by repeat (first | exact find_head | apply find_tail)) (by first | rfl | (simp; done)) (by first | (simp; done) | (simp; omega) | (rw [mskA_len]; omega)) (by first | rfl | (simp; done)) (by first | exact mskA_store (by omega) | (simp only [setL, List.getElem?_cons_zero, List.getElem?_cons_succ, Value.cells, List.take_zero, List.take_succ_cons, List.take_nil, List.drop_zero, List.drop_succ_cons, List.drop_nil, List.length_cons, List.length_nil, List.cons_append, List.nil_append, List.append_nil, Nat.zero_add, Nat.add_zero, Nat.reduceAdd, Nat.reduceBEq, Nat.reduceEqDiff, Nat.ble, BEq.rfl, Bool.and_true, Bool.and_self, cond_true, beq_self_eq_true]; rfl)) ?_)
      clear hh w; intro w hh
      refine w_nil ?_
      have hl2 := hl.add (t := 0) (hl.add (t := 2) (hl.add (t := 3) (hl.add (t := 4) (hl.add (t := 6) (hl.add (t := 7) (hl.add (t := 15) (hl.add (t := 16) (hl.add (t := 17) (hl.nil) rfl) rfl) rfl) rfl) rfl) rfl) rfl) rfl) rfl; clear hl; have hl := hl2; clear hl2
      refine then_normal ?_
      refine c_draw [(k6, C (rqc x) 130)] [9, 10] mixed hh ?_
      clear hh w; intro w hh
      have hM : Mem [(k6, C (rqc x) 130)] w := (by (repeat (first | exact Mem.nil | refine Mem.consR hh (by assumption) (by simp) ?_ | refine Mem.cons hh.mem (by (repeat (first | exact find_head | apply find_tail)); done) ?_ | fail)); done)
      refine d_take (i := 0) hl rfl (by kernel_rfl) (by kernel_rfl) (by kernel_rfl) (by kernel_rfl) (by kernel_rfl) rfl trivial (fun _ _ _ h => h) hM (fun w hC => r_field hl rfl fld130_0) rfl ?_
      clear hl a; intro a hl
      refine d_take (i := 1) hl rfl (by kernel_rfl) (by kernel_rfl) (by kernel_rfl) (by kernel_rfl) (by kernel_rfl) rfl trivial (fun _ _ _ h => h) hM (fun w hC => r_loadC hl rfl one57 hC (by repeat (first | exact find_head | apply find_tail)) (by first | rfl | rfl)) rfl ?_
      clear hl a; intro a hl
      refine d_take (i := 2) hl rfl (by kernel_rfl) (by kernel_rfl) (by kernel_rfl) (by kernel_rfl) (by kernel_rfl) rfl trivial (fun _ _ _ h => h) hM (fun w hC => r_move hl rfl) rfl ?_
      clear hl a; intro a hl
      refine d_take (i := 3) hl rfl (by kernel_rfl) (by kernel_rfl) (by kernel_rfl) (by kernel_rfl) (by kernel_rfl) rfl trivial (fun _ _ _ h => h) hM (fun w hC => r_move hl rfl) rfl ?_
      clear hl a; intro a hl
      refine d_take (i := 5) hl rfl (by kernel_rfl) (by kernel_rfl) (by kernel_rfl) (by kernel_rfl) (by kernel_rfl) rfl trivial (fun _ _ _ h => h) hM (fun w hC => r_field hl rfl fld130_0) rfl ?_
      clear hl a; intro a hl
      refine d_take (i := 6) hl rfl (by kernel_rfl) (by kernel_rfl) (by kernel_rfl) (by kernel_rfl) (by kernel_rfl) rfl trivial (fun _ _ _ h => h) hM (fun w hC => r_loadC hl rfl one57 hC (by repeat (first | exact find_head | apply find_tail)) (by first | rfl | rfl)) rfl ?_
      clear hl a; intro a hl
      refine d_one (i := 4) (by kernel_rfl) rfl ?_
      try clear hM
      refine id (w_call hl hh rfl trivial rfl cal41 rfl (holders_spec hT bt i (by omega)) (by repeat (first | exact keeps_nil | apply keeps_cons (by repeat (first | exact find_head | apply find_tail)) (by first  | rfl) | exact keeps_self | exact keeps_left | exact keeps_right | exact keeps_swap | apply keeps_mv)) (mem_keep hh hpre) ?_)
      clear hl hh a w; intro vc Fc a w hR hl hh
      obtain ⟨rfl, rfl⟩ := hR
      try simp only [List.cons_append, List.nil_append] at hh
      have hM : Mem [(k6, C (rqc x) 130)] w := (by (repeat (first | exact Mem.nil | refine Mem.consR hh (by assumption) (by simp) ?_ | refine Mem.cons hh.mem (by (repeat (first | exact find_head | apply find_tail)); done) ?_ | fail)); done)
      refine d_step (fun _ => hM) ?_
      refine d_one (i := 7) (by kernel_rfl) rfl ?_
      try clear hM
      refine id (w_call hl hh rfl trivial rfl cal32 rfl (bit_spec _ (by omega)) (by repeat (first | exact keeps_nil | apply keeps_cons (by repeat (first | exact find_head | apply find_tail)) (by first  | rfl) | exact keeps_self | exact keeps_left | exact keeps_right | exact keeps_swap | apply keeps_mv)) trivial ?_)
      clear hl hh a w; intro vc Fc a w hR hl hh
      obtain ⟨rfl, rfl⟩ := hR
      try simp only [List.cons_append, List.nil_append] at hh
      have hM : Mem [(k6, C (rqc x) 130)] w := (by (repeat (first | exact Mem.nil | refine Mem.consR hh (by assumption) (by simp) ?_ | refine Mem.cons hh.mem (by (repeat (first | exact find_head | apply find_tail)); done) ?_ | fail)); done)
      refine d_step (fun _ => hM) ?_
      refine d_take (i := 8) hl rfl (by kernel_rfl) (by kernel_rfl) (by kernel_rfl) (by kernel_rfl) (by kernel_rfl) rfl trivial (fun _ _ _ h => h) hM (fun w hC => r_andNot hl rfl rfl) rfl ?_
      clear hl a; intro a hl
      rw [andNot_mi] at hl
      refine d_takeL (i := 9) hl rfl (by kernel_rfl) (by kernel_rfl) (by kernel_rfl) (by kernel_rfl) (by kernel_rfl) rfl trivial (fun _ _ _ h => h) (fun w => r_indexA hl rfl rfl arr50 (by omega) (by omega) (by first | (simp only [Int.reduceToNat]; rfl) | exact toNat_add1 _ | exact toNat_add2 _ _ | exact toNat_emod _ _ | exact Int.toNat_natCast _ | rfl)) rfl ?_
      clear hl a; intro a hl
      refine d_one (i := 10) (by kernel_rfl) rfl ?_
      try clear hM
      refine id (w_store hl hh trivial one37 rfl rfl (by repeat (first | exact find_head | apply find_tail)) (by first | (simp; done) | (simp; omega) | (rw [mskA_len]; omega)) (by first | rfl | assumption | (apply Row.one; assumption)) (by first | exact mskA_store (by omega) | (simp only [setL, List.getElem?_cons_zero, List.getElem?_cons_succ, Value.cells, List.take_zero, List.take_succ_cons, List.take_nil, List.drop_zero, List.drop_succ_cons, List.drop_nil, List.length_cons, List.length_nil, List.cons_append, List.nil_append, List.append_nil, Nat.zero_add, Nat.add_zero, Nat.reduceAdd, Nat.reduceBEq, Nat.reduceEqDiff, Nat.ble, BEq.rfl, Bool.and_true, Bool.and_self, cond_true, beq_self_eq_true]; rfl)) ?_)
      clear hh w; intro w hh
      refine d_step (fun h => absurd h (by decide)) ?_
      refine d_done (by kernel_rfl) ?_
      try clear hM
      have hl2 := hl.add (t := 0) (hl.add (t := 2) (hl.add (t := 3) (hl.add (t := 4) (hl.add (t := 7) (hl.add (t := 15) (hl.add (t := 16) (hl.add (t := 17) (hl.nil) rfl) rfl) rfl) rfl) rfl) rfl) rfl) rfl; clear hl; have hl := hl2; clear hl2
      refine blk_normal ?_
      refine then_normal ?_
      refine c_region ?_
      first | refine wl (wl_val hl rfl trivial (r_add hl rfl rfl (by simp only [Fits]; omega)) ?_) | refine wl (wl_val hl rfl trivial (r_addW hl rfl rfl) ?_)
      clear hl a; intro a hl
      refine wl (wl_val hl rfl trivial (r_move hl rfl) ?_)
      clear hl a; intro a hl
      refine w_nil ?_
      have hl2 := hl.add (t := 0) (hl.add (t := 2) (hl.add (t := 3) (hl.add (t := 4) (hl.add (t := 7) (hl.add (t := 15) (hl.add (t := 16) (hl.add (t := 17) (hl.nil) rfl) rfl) rfl) rfl) rfl) rfl) rfl) rfl; clear hl; have hl := hl2; clear hl2
      refine then_normal ?_
      refine ⟨(j + 1), (by omega), (by omega), hl.addE (t := 17) (hl.addE (t := 0) (hl.addE (t := 2) (hl.addE (t := 3) (hl.addE (t := 4) (hl.addE (t := 7) (hl.addE (t := 15) (hl.addE (t := 16) (hl.nil) rfl (by first | rfl | (congr 1; omega))) rfl (by first | rfl | (congr 1; omega))) rfl (by first | rfl | (congr 1; omega))) rfl (by first | rfl | (congr 1; omega))) rfl (by first | rfl | (congr 1; omega))) rfl (by first | rfl | (congr 1; omega))) rfl (by first | rfl | (congr 1; omega))) rfl (by first | rfl | (congr 1; omega)), hh.keep (by repeat (first | exact keeps_nil | apply keeps_cons (by repeat (first | exact find_head | apply find_tail)) (by first  | exact wf_obj hx | rfl) | exact keeps_self | exact keeps_left | exact keeps_right | exact keeps_swap | apply keeps_mv))⟩
    · intro hc1
      try simp only [decide_eq_true_eq, decide_eq_false_iff_not, Bool.not_eq_true', Bool.not_eq_false', Bool.not_eq_true, Bool.not_eq_false, Bool.and_eq_true, Bool.or_eq_true, Bool.and_eq_false_iff, Bool.or_eq_false_iff, Bool.not_not, ne_eq, Int.not_lt, Int.not_le, Decidable.not_not, beq_iff_eq, bne_iff_ne] at hc1
      refine wp_exit ?_
      refine then_exit ?_
      refine then_exit ?_
      refine blk_exit ?_
      refine blk_normal ?_
      refine then_normal ?_
      refine c_region ?_
      first | refine wl (wl_val hl rfl trivial (r_add hl rfl rfl (by simp only [Fits]; omega)) ?_) | refine wl (wl_val hl rfl trivial (r_addW hl rfl rfl) ?_)
      clear hl a; intro a hl
      refine wl (wl_val hl rfl trivial (r_move hl rfl) ?_)
      clear hl a; intro a hl
      refine w_nil ?_
      have hl2 := hl.add (t := 0) (hl.add (t := 2) (hl.add (t := 3) (hl.add (t := 7) (hl.nil) rfl) rfl) rfl) rfl; clear hl; have hl := hl2; clear hl2
      refine then_normal ?_
      refine ⟨(i + 1), (by omega), (by omega), hl.addE (t := 7) (hl.addE (t := 0) (hl.addE (t := 2) (hl.addE (t := 3) (hl.nil) rfl (by first | rfl | (congr 1; omega))) rfl (by first | rfl | (congr 1; omega))) rfl (by first | rfl | (congr 1; omega))) rfl (by first | rfl | (congr 1; omega)), hh.keep (by repeat (first | exact keeps_nil | apply keeps_cons (by repeat (first | exact find_head | apply find_tail)) (by first  | exact wf_end (by omega) | rfl) | exact keeps_self | exact keeps_left | exact keeps_right | exact keeps_swap | apply keeps_mv))⟩
  · intro hc0
    try simp only [decide_eq_true_eq, decide_eq_false_iff_not, Bool.not_eq_true', Bool.not_eq_false', Bool.not_eq_true, Bool.not_eq_false, Bool.and_eq_true, Bool.or_eq_true, Bool.and_eq_false_iff, Bool.or_eq_false_iff, Bool.not_not, ne_eq, Int.not_lt, Int.not_le, Decidable.not_not, beq_iff_eq, bne_iff_ne] at hc0
    have hi20 : i = 20 := by omega
    subst hi20
    refine wp_exit ?_
    refine then_exit ?_
    refine then_exit ?_
    refine blk_exit ?_
    refine then_normal ?_
    refine c_seq ?_
    refine c_region ?_
    first | refine wl (w_loadA hl hh rfl trivial agg50 rfl (by repeat (first | exact find_head | apply find_tail)) (by exact mskA_whole _) (by exact mskA_len _) ?_) | refine wl (w_loadRA hl hh rfl trivial agg50 rfl hmb (by simp) hrd (rqc_len _) ?_) | refine wl (w_loadRA hl hh rfl trivial agg50 rfl hmT (by simp) (tab_row hT (by omega)) (arrL_length _ _) ?_)
    clear hl a; intro a hl
    refine wl (w_storeA hl hh trivial agg50 rfl rfl (by repeat (first | exact find_head | apply find_tail)) (by exact mskA_len _) (by first | exact Nat.le_refl _ | (rw [mskA_len]; exact Nat.le_refl _)) (by exact mskA_one _) (by exact setL_whole (mskA_len _)) ?_)
    clear hh w; intro w hh
    refine w_nil ?_
    have hl2 := hl.add (t := 2) (hl.nil) rfl; clear hl; have hl := hl2; clear hl2
    refine then_normal ?_
    refine wp_ret ?_
    refine f_retC (F' := []) hl hh rfl rfl agg50 (by repeat (first | exact find_head | apply find_tail)) (by first | rfl | exact arrL_length _ _ | (simp; done)) (by repeat (first | exact keeps_nil | apply keeps_cons (by repeat (first | exact find_head | apply find_tail)) (by first  | rfl) | exact keeps_self | exact keeps_left | exact keeps_right | exact keeps_swap | apply keeps_mv)) ?_
    exact ⟨rfl, rfl⟩
end Go.Proofs.Qxb6500911aGreatDoor

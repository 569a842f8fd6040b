import Derived.Test.Qxb6500912aGreatDoorA5
import Derived.Test.Qxb6500912aGreatDoorMkn
namespace Go.Proofs.Qxb6500912aGreatDoor
open Go.Eng
set_option linter.unusedVariables false
set_option linter.unusedSimpArgs false
theorem bld73 : buildOk Tryz.prog 73 [(0, 1), (1, 1)] = true := by kernel_rfl
theorem zero48 : zeroOk Tryz.prog 48 (.slice none 0 0) := by unfold zeroOk; kernel_rfl
theorem conc48 : concT Tryz.prog 48 = true := by kernel_rfl
theorem cal57 : callable Tryz.prog 57 = true := by kernel_rfl
theorem fld85_2 : fieldOk Tryz.prog 85 2 2 = true := by kernel_rfl
theorem one3 : oneOk Tryz.prog 3 = true := by kernel_rfl
theorem cal59 : callable Tryz.prog 59 = true := by kernel_rfl
/-! ## a block goes in -/
theorem i32_bd (x : Int) : -2147483648 ≤ IntKind.i32.wrap x ∧ IntKind.i32.wrap x < 2147483648 := by
  simp [IntKind.wrap, IntKind.bits, IntKind.signed]; omega
def mkBk (lo hi : Int) : Bk := if h : lo.toNat < 2147483648 then ⟨lo.toNat, hi.toNat, h⟩ else ⟨0, 0, by decide⟩
theorem mkBk_s {lo hi : Int} (h0 : 0 ≤ lo) (h1 : lo < 2147483648) : ((mkBk lo hi).s : Int) = lo := by
  unfold mkBk; rw [dif_pos (by omega)]; simp; omega
theorem mkBk_e {lo hi : Int} (h0 : 0 ≤ lo) (h1 : lo < 2147483648) (h2 : 0 ≤ hi) : ((mkBk lo hi).e : Int) = hi := by
  unfold mkBk; rw [dif_pos (by omega)]; simp; omega
theorem mkBk_ab {u lo hi : Int} (h0 : 0 ≤ lo) (h1 : lo < 2147483648) (h2 : 0 ≤ hi) : (mkBk lo hi).ab u = ((u + lo) % 4294967296, (u + hi) % 4294967296) := by
  unfold Bk.ab; rw [mkBk_s h0 h1, mkBk_e h0 h1 h2]
def addLo (u : Int) (q : Int × Int) : Int := max (IntKind.i32.wrap ((q.1 - u) % 4294967296)) 0
def addHi (u bn : Int) (q : Int × Int) : Int := min (IntKind.i32.wrap ((q.2 - u) % 4294967296)) ((bn - u) % 4294967296)
def addX (u bn : Int) (q : Int × Int) : Bk := mkBk (addLo u q) (addHi u bn q)
def mstep (ms : List Bk) (x : Bk) : List Bk :=
  match ms.getLast? with
  | none => [x]
  | some y => if y.e < x.s then ms ++ [x] else if y.e < x.e then ms.dropLast ++ [⟨y.s, x.e, y.h⟩] else ms
def mergeB (l : List Bk) : List Bk := l.foldl mstep []
theorem mergeB_succ {l : List Bk} {i : Nat} {x : Bk} (h : l[i]? = some x) : mergeB (l.take (i + 1)) = mstep (mergeB (l.take i)) x := by
  unfold mergeB; rw [List.take_add_one, h, List.foldl_append]; rfl
theorem fl_ab (u : Int) (os : List Bk) : fl pc (os.map (Bk.ab u)) = fl (bkc u) os := by unfold fl; rw [List.map_map]; rfl
theorem bkc_len (u : Int) (x : Bk) : (bkc u x).length = 2 := rfl
theorem bkc_one (u : Int) (x : Bk) : (bkc u x).all (·.oneCell') = true := rfl
/-- within the flight -/
def BIn (f : Nat) (x : Bk) : Prop := x.s < x.e ∧ x.e ≤ f
/-- ascending, apart, within the flight -/
def BInv (f : Nat) : List Bk → Prop
  | [] => True
  | x :: l => BIn f x ∧ (∀ y, y ∈ l → x.e < y.s) ∧ BInv f l
theorem BInv.all {f : Nat} : ∀ {l : List Bk}, BInv f l → ∀ x, x ∈ l → BIn f x
  | [], _, x, hx => by cases hx
  | y :: l, h, x, hx => by
    rcases List.mem_cons.1 hx with rfl | hx
    · exact h.1
    · exact BInv.all h.2.2 x hx
theorem BInv.append {f : Nat} : ∀ {l : List Bk} {x : Bk}, BInv f l → BIn f x → (∀ y, y ∈ l → y.e < x.s) → BInv f (l ++ [x])
  | [], x, _, hx, _ => ⟨hx, fun _ h => (by cases h), trivial⟩
  | y :: l, x, h, hx, hy => ⟨h.1, fun z hz => by
      rcases List.mem_append.1 hz with hz | hz
      · exact h.2.1 z hz
      · rw [List.mem_singleton] at hz; subst hz; exact hy y (List.mem_cons_self ..), BInv.append h.2.2 hx fun z hz => hy z (List.mem_cons_of_mem _ hz)⟩
theorem BInv.init {f : Nat} : ∀ {l : List Bk} {x : Bk}, BInv f (l ++ [x]) → BInv f l ∧ BIn f x ∧ ∀ y, y ∈ l → y.e < x.s
  | [], x, h => ⟨trivial, h.1, fun _ h => (by cases h)⟩
  | y :: l, x, h => by
    obtain ⟨h1, h2, h3⟩ := BInv.init h.2.2
    refine ⟨⟨h.1, fun z hz => h.2.1 z (List.mem_append_left _ hz), h1⟩, h2, fun z hz => ?_⟩
    rcases List.mem_cons.1 hz with rfl | hz
    · exact h.2.1 x (List.mem_append_right _ (List.mem_singleton.2 rfl))
    · exact h3 z hz
/-- the byte at offset k lies in a block -/
def Cov (l : List Bk) (k : Nat) : Prop := ∃ x, x ∈ l ∧ x.s ≤ k ∧ k < x.e
theorem mstep_inv {f : Nat} {ms : List Bk} {x : Bk} (h : BInv f ms) (hx : BIn f x) (hs : ∀ y, y ∈ ms → y.s ≤ x.s) : BInv f (mstep ms x) ∧ (∀ y, y ∈ mstep ms x → y.s ≤ x.s) ∧ ∀ k, Cov (mstep ms x) k ↔ (Cov ms k ∨ (x.s ≤ k ∧ k < x.e)) := by
  unfold mstep
  cases hl : ms.getLast? with
  | none =>
    have : ms = [] := by simpa using hl
    subst this
    refine ⟨⟨hx, fun _ h => (by cases h), trivial⟩, fun y hy => by rw [List.mem_singleton] at hy; rw [hy]; exact Nat.le_refl _, fun k => ?_⟩
    constructor
    · rintro ⟨y, hy, h1⟩
      rw [List.mem_singleton] at hy; subst hy; exact .inr h1
    · rintro (⟨y, hy, _⟩ | h1)
      · cases hy
      · exact ⟨x, List.mem_singleton.2 rfl, h1⟩
  | some y =>
    obtain ⟨i, rfl⟩ := List.getLast?_eq_some_iff.1 hl
    obtain ⟨h1, h2, h3⟩ := h.init
    have hys := hs y (List.mem_append_right _ (List.mem_singleton.2 rfl))
    simp only
    split
    · rename_i hlt
      refine ⟨h.append hx fun z hz => ?_, fun z hz => ?_, fun k => ?_⟩
      · rcases List.mem_append.1 hz with hz | hz
        · have := h3 z hz; have := h2.1; omega
        · rw [List.mem_singleton] at hz; subst hz; exact hlt
      · rcases List.mem_append.1 hz with hz | hz
        · exact hs z hz
        · rw [List.mem_singleton] at hz; subst hz; exact Nat.le_refl _
      · constructor
        · rintro ⟨z, hz, hk⟩
          rcases List.mem_append.1 hz with hz | hz
          · exact .inl ⟨z, hz, hk⟩
          · rw [List.mem_singleton] at hz; subst hz; exact .inr hk
        · rintro (⟨z, hz, hk⟩ | hk)
          · exact ⟨z, List.mem_append_left _ hz, hk⟩
          · exact ⟨x, List.mem_append_right _ (List.mem_singleton.2 rfl), hk⟩
    · rename_i hlt
      split
      · rename_i hlt2
        rw [List.dropLast_concat]
        refine ⟨h1.append ⟨by show y.s < x.e; have := h2.1; omega, hx.2⟩ h3, fun z hz => ?_, fun k => ?_⟩
        · rcases List.mem_append.1 hz with hz | hz
          · exact hs z (List.mem_append_left _ hz)
          · rw [List.mem_singleton] at hz; subst hz; exact hys
        · constructor
          · rintro ⟨z, hz, hk⟩
            rcases List.mem_append.1 hz with hz | hz
            · exact .inl ⟨z, List.mem_append_left _ hz, hk⟩
            · rw [List.mem_singleton] at hz; subst hz
              simp only at hk
              by_cases hky : k < y.e
              · exact .inl ⟨y, List.mem_append_right _ (List.mem_singleton.2 rfl), hk.1, hky⟩
              · exact .inr ⟨by omega, hk.2⟩
          · rintro (⟨z, hz, hk⟩ | hk)
            · rcases List.mem_append.1 hz with hz | hz
              · exact ⟨z, List.mem_append_left _ hz, hk⟩
              · rw [List.mem_singleton] at hz; subst hz
                exact ⟨_, List.mem_append_right _ (List.mem_singleton.2 rfl), hk.1, by show k < x.e; omega⟩
            · exact ⟨_, List.mem_append_right _ (List.mem_singleton.2 rfl), by show y.s ≤ k; omega, hk.2⟩
      · rename_i hlt2
        refine ⟨h, hs, fun k => ⟨.inl, ?_⟩⟩
        rintro (hk | hk)
        · exact hk
        · exact ⟨y, List.mem_append_right _ (List.mem_singleton.2 rfl), by omega, by omega⟩
theorem mergeB_inv {f : Nat} : ∀ (l ms : List Bk), BInv f ms → (∀ x, x ∈ l → BIn f x) → l.Pairwise (fun x y => x.s ≤ y.s) → (∀ x, x ∈ l → ∀ y, y ∈ ms → y.s ≤ x.s) → BInv f (l.foldl mstep ms) ∧ ∀ k, Cov (l.foldl mstep ms) k ↔ (Cov ms k ∨ Cov l k)
  | [], ms, h, _, _, _ => ⟨h, fun k => ⟨.inl, fun h => h.elim id fun ⟨_, hx, _⟩ => (by cases hx)⟩⟩
  | x :: l, ms, h, hb, hp, hs => by
    obtain ⟨h1, h2, h3⟩ := mstep_inv h (hb x (List.mem_cons_self ..)) (hs x (List.mem_cons_self ..))
    have hp2 := List.pairwise_cons.1 hp
    obtain ⟨g1, g2⟩ := mergeB_inv l (mstep ms x) h1 (fun y hy => hb y (List.mem_cons_of_mem _ hy)) hp2.2 (fun y hy z hz => Nat.le_trans (h2 z hz) (hp2.1 y hy))
    refine ⟨g1, fun k => (g2 k).trans ?_⟩
    rw [h3]
    constructor
    · rintro ((h | h) | ⟨y, hy, hk⟩)
      · exact .inl h
      · exact .inr ⟨x, List.mem_cons_self .., h⟩
      · exact .inr ⟨y, List.mem_cons_of_mem _ hy, hk⟩
    · rintro (h | ⟨y, hy, hk⟩)
      · exact .inl (.inl h)
      · rcases List.mem_cons.1 hy with rfl | hy
        · exact .inl (.inr hk)
        · exact .inr ⟨y, hy, hk⟩
/-- what one report does to the blocks: 'os'' behind it, 'r' newly covered -/
def AddR (u bn : Int) (os : List Bk) (q : Int × Int) (os' : List Bk) (r : Int) : Prop :=
  (addHi u bn q ≤ addLo u q ∧ os' = os ∧ r = 0) ∨
  (addLo u q < addHi u bn q ∧ ∃ l, l.Perm (os ++ [addX u bn q]) ∧ l.Pairwise (fun x y => x.s ≤ y.s) ∧
    ((16 < (mergeB l).length ∧ os' = os ∧ r = 0) ∨ ((mergeB l).length ≤ 16 ∧ os' = mergeB l ∧ r = (covP ((mergeB l).map (Bk.ab u)) - covP (os.map (Bk.ab u))) % 4294967296)))
theorem addX_in {u bn : Int} {q : Int × Int} {f : Nat} (hf : ((bn - u) % 4294967296) = (f : Int)) (h : addLo u q < addHi u bn q) : BIn f (addX u bn q) := by
  have h1 := i32_bd ((q.1 - u) % 4294967296); have h2 := i32_bd ((q.2 - u) % 4294967296)
  have h3 : 0 ≤ addLo u q := by unfold addLo; omega
  have h4 : addLo u q < 2147483648 := by unfold addLo; omega
  have h5 : addHi u bn q ≤ (f : Int) := by unfold addHi; omega
  have e1 := mkBk_s (hi := addHi u bn q) h3 h4
  have e2 := mkBk_e h3 h4 (show 0 ≤ addHi u bn q by omega)
  unfold addX BIn
  constructor <;> omega
theorem AddR.inv {u bn : Int} {os os' : List Bk} {q : Int × Int} {r : Int} {f : Nat} (hf : ((bn - u) % 4294967296) = (f : Int)) (h : AddR u bn os q os' r) (hi : BInv f os) (hl : os.length ≤ 16) : BInv f os' ∧ os'.length ≤ 16 := by
  rcases h with ⟨_, rfl, _⟩ | ⟨h0, l, hp, hs, ⟨_, rfl, _⟩ | ⟨h1, rfl, _⟩⟩
  · exact ⟨hi, hl⟩
  · exact ⟨hi, hl⟩
  · refine ⟨(mergeB_inv l [] trivial (fun x hx => ?_) hs (fun _ _ _ h => by cases h)).1, h1⟩
    have := hp.mem_iff.1 hx
    rcases List.mem_append.1 this with h | h
    · exact hi.all x h
    · rw [List.mem_singleton] at h; subst h; exact addX_in hf h0
theorem fl_set1 (u : Int) (l : List Bk) (y : Bk) (e : Nat) (junk : List Value) (i : Nat) (h : l[i]? = some y) : setL (fl (bkc u) l ++ junk) (0 + i * 2 + 1) [.int .u32 ((u + (e : Int)) % 4294967296)] = fl (bkc u) (l.set i ⟨y.s, e, y.h⟩) ++ junk := by
  have hi : i < l.length := (List.getElem?_eq_some_iff.1 h).1
  have h2 := fl_set (bkc_len u) l ⟨y.s, e, y.h⟩ junk i hi
  rw [← h2]
  have hA : (fl (bkc u) (l.take i)).length = i * 2 := by rw [fl_len (bkc_len u), List.length_take]; congr 1; omega
  have hy : l[i] = y := (List.getElem?_eq_some_iff.1 h).2
  have h1 : fl (bkc u) l ++ junk = fl (bkc u) (l.take i) ++ (bkc u y ++ (fl (bkc u) (l.drop (i + 1)) ++ junk)) := by rw [fl_split l i, List.drop_eq_getElem_cons hi, fl_cons, hy]; simp
  rw [h1]
  generalize fl (bkc u) (l.take i) = A at hA
  generalize fl (bkc u) (l.drop (i + 1)) ++ junk = B
  unfold setL
  simp only [bkc, pc, Bk.ab, Nat.zero_add, List.length_cons, List.length_nil]
  rw [← hA]
  have e1 : List.take (A.length + 1) A = A := List.take_of_length_le (by omega)
  have e2 : List.drop (A.length + 1 + 1) A = [] := List.drop_of_length_le (by omega)
  have e3 : List.drop (A.length + 2) A = [] := List.drop_of_length_le (by omega)
  have e4 : A.length + 1 + 1 - A.length = 2 := by omega
  simp [List.take_append, List.drop_append, e1, e2, e3, e4]
structure MI (l : List Bk) (i : Nat) (ms cs : List Bk) : Prop where
  lt : i + 1 ≤ l.length
  eq : ms = mergeB (l.take (i + 1))
  len : cs.length = l.length
  tk : cs.take ms.length = ms
  dr : cs.drop (i + 1) = l.drop (i + 1)
  le : ms.length ≤ i + 1
  ne : ms ≠ []
theorem MI.get {l : List Bk} {i : Nat} {ms cs : List Bk} (h : MI l i ms cs) {x : Bk} (hx : l[i + 1]? = some x) : cs[i + 1]? = some x := by
  have := congrArg (fun z : List Bk => z[0]?) h.dr
  simpa [hx] using this
theorem MI.last {l : List Bk} {i : Nat} {ms cs : List Bk} (h : MI l i ms cs) : ∃ y, ms.getLast? = some y ∧ cs[ms.length - 1]? = some y := by
  obtain ⟨y, hy⟩ : ∃ y, ms.getLast? = some y := ⟨_, List.getLast?_eq_some_getLast h.ne⟩
  refine ⟨y, hy, ?_⟩
  have hl : 0 < ms.length := List.length_pos_iff.2 h.ne
  have h1 : ms[ms.length - 1]? = some y := by rw [← List.getLast?_eq_getElem?]; exact hy
  rw [← h.tk, List.getElem?_take] at h1
  rw [List.length_take] at h1
  split at h1
  · have : min ms.length cs.length - 1 = ms.length - 1 := by have := h.len; have := h.le; have := h.lt; omega
    rw [this] at h1; exact h1
  · cases h1
theorem MI.app {l : List Bk} {i : Nat} {ms cs : List Bk} {x y : Bk} (h : MI l i ms cs) (hx : l[i + 1]? = some x) (hy : ms.getLast? = some y) (hlt : y.e < x.s) : MI l (i + 1) (mstep ms x) (cs.set ms.length x) ∧ (mstep ms x).length = ms.length + 1 := by
  have e : mstep ms x = ms ++ [x] := by unfold mstep; rw [hy]; simp [hlt]
  have hi : i + 1 < l.length := (List.getElem?_eq_some_iff.1 hx).1
  have hl : ms.length < cs.length := by have := h.le; have := h.len; omega
  rw [e]
  refine ⟨⟨by omega, ?_, by rw [List.length_set]; exact h.len, ?_, ?_, by simp; exact h.le, by simp⟩, by simp⟩
  · rw [mergeB_succ hx, ← h.eq, e]
  · rw [List.length_append, List.length_singleton, List.take_add_one, List.take_set_of_le (Nat.le_refl _), h.tk]
    simp [hl]
  · rw [List.drop_set_of_lt (by have := h.le; omega)]
    have := congrArg (List.drop 1) h.dr
    rwa [List.drop_drop, List.drop_drop] at this
theorem MI.ext {l : List Bk} {i : Nat} {ms cs : List Bk} {x y : Bk} (h : MI l i ms cs) (hx : l[i + 1]? = some x) (hy : ms.getLast? = some y) (hlt : ¬ y.e < x.s) (hlt2 : y.e < x.e) : MI l (i + 1) (mstep ms x) (cs.set (ms.length - 1) ⟨y.s, x.e, y.h⟩) ∧ (mstep ms x).length = ms.length := by
  have e : mstep ms x = ms.dropLast ++ [⟨y.s, x.e, y.h⟩] := by unfold mstep; rw [hy]; simp [hlt, hlt2]
  have hi : i + 1 < l.length := (List.getElem?_eq_some_iff.1 hx).1
  have hl : 0 < ms.length := List.length_pos_iff.2 h.ne
  have hle := h.le; have hcl := h.len
  have hd : ms.dropLast.length = ms.length - 1 := by simp
  rw [e]
  refine ⟨⟨by omega, ?_, by rw [List.length_set]; exact h.len, ?_, ?_, by simp; omega, by simp⟩, by simp; omega⟩
  · rw [mergeB_succ hx, ← h.eq, e]
  · rw [List.length_append, List.length_singleton, hd, List.take_add_one, List.take_set_of_le (Nat.le_refl _)]
    have h1 : cs.take (ms.length - 1) = ms.dropLast := by
      rw [List.dropLast_eq_take]
      have := congrArg (List.take (ms.length - 1)) h.tk
      rw [List.take_take] at this
      rw [← this]; congr 1; omega
    rw [h1]
    have : ms.length - 1 < cs.length := by omega
    simp [this]
  · rw [List.drop_set_of_lt (by omega)]
    have := congrArg (List.drop 1) h.dr
    rwa [List.drop_drop, List.drop_drop] at this
theorem MI.keep {l : List Bk} {i : Nat} {ms cs : List Bk} {x y : Bk} (h : MI l i ms cs) (hx : l[i + 1]? = some x) (hy : ms.getLast? = some y) (hlt : ¬ y.e < x.s) (hlt2 : ¬ y.e < x.e) : MI l (i + 1) (mstep ms x) cs ∧ (mstep ms x).length = ms.length := by
  have e : mstep ms x = ms := by unfold mstep; rw [hy]; simp [hlt, hlt2]
  have hi : i + 1 < l.length := (List.getElem?_eq_some_iff.1 hx).1
  rw [e]
  refine ⟨⟨by omega, by rw [mergeB_succ hx, ← h.eq, e], h.len, h.tk, ?_, by have := h.le; omega, h.ne⟩, rfl⟩
  have := congrArg (List.drop 1) h.dr
  rwa [List.drop_drop, List.drop_drop] at this
theorem MI.start {l : List Bk} (h : 0 < l.length) : MI l 0 (mergeB (l.take 1)) l ∧ (mergeB (l.take 1)).length = 1 := by
  obtain ⟨x, l, rfl⟩ := List.exists_cons_of_length_pos h
  have e : mergeB ((x :: l).take 1) = [x] := by simp [mergeB, mstep]
  rw [e]
  exact ⟨⟨h, e.symm, rfl, by simp, rfl, by simp, by simp⟩, rfl⟩
theorem cell_e (u : Int) {l : List Bk} {i : Nat} {y : Bk} (h : l[i]? = some y) (junk : List Value) : (fl (bkc u) l ++ junk)[0 + i * 2 + 1]? = some (.int .u32 ((u + (y.e : Int)) % 4294967296)) := fl_cell (bkc_len u) h rfl junk
theorem at_next (u : Int) {l : List Bk} {i : Nat} {x : Bk} (h : l[i + 1]? = some x) (junk : List Value) : ((fl (bkc u) l ++ junk).drop (0 + 1 * 2 + i * 2)).take 2 = [.int .u32 ((u + (x.s : Int)) % 4294967296), .int .u32 ((u + (x.e : Int)) % 4294967296)] := by
  have := fl_at (bkc_len u) h junk
  rw [show 0 + (i + 1) * 2 = 0 + 1 * 2 + i * 2 by omega] at this
  exact this
structure MS where
  i : Nat
  ms : List Bk
  cs : List Bk
theorem less_b {u : Int} {x y : Nat} (hx : x < 2147483648) (hy : y < 2147483648) : lessP ((u + (x : Int)) % 4294967296) ((u + (y : Int)) % 4294967296) = decide (x < y) := by
  rw [lessP_off u x y (by omega)]
  congr 1; exact propext (by omega)
theorem fl_set0 (u : Int) (l : List Bk) (x : Bk) (junk : List Value) (i : Nat) (h : i < l.length) : setL (fl (bkc u) l ++ junk) (i * 2) [.int .u32 ((u + (x.s : Int)) % 4294967296), .int .u32 ((u + (x.e : Int)) % 4294967296)] = fl (bkc u) (l.set i x) ++ junk := by
  have h9 := fl_set (bkc_len u) l x junk i h
  rw [Nat.zero_add] at h9
  exact h9
theorem row_room (u : Int) (l : List Bk) (junk : List Value) (i : Nat) (h : i < l.length) : i * 2 + 1 * 2 ≤ (fl (bkc u) l ++ junk).length := by
  rw [List.length_append, fl_len (bkc_len u)]; omega
theorem i_succ (i : Nat) : ((i : Int) + 1) = ((i + 1 : Nat) : Int) := by omega


theorem blocksO_spec (sb : Nat) (bu bn : Int) (os : List Bk) (hlen : os.length ≤ 16) (p : Option Addr) (c : Nat) (E : List (Nat × Obj)) (hR : Row (.slice p os.length c) os.length (fl (bkc bu) os) 2 73 E) : SpK Tryz.prog 56 #[.pointer (some ⟨sb, 0, none⟩)] (fun w => w.heap[sb]? = some (C (bdL bu bn (.slice p os.length c)) 85) ∧ Mem E w) [] (fun v F' => Row v os.length (fl (bkc bu) os) 2 73 F') := by
  have := blocks_spec sb bu bn (os.map (Bk.ab bu)) (by rw [List.length_map]; omega) p c E (by rw [List.length_map, fl_ab]; exact hR)
  rw [List.length_map, fl_ab] at this
  exact this
theorem covO_spec (sb : Nat) (bu bn : Int) (os : List Bk) (hlen : os.length ≤ 100) (p : Option Addr) (c : Nat) (E : List (Nat × Obj)) (hR : Row (.slice p os.length c) os.length (fl (bkc bu) os) 2 73 E) : SpK Tryz.prog 59 #[.pointer (some ⟨sb, 0, none⟩)] (fun w => w.heap[sb]? = some (C (bdL bu bn (.slice p os.length c)) 85) ∧ Mem E w) [] (fun v F' => v = .int .u32 (covP (os.map (Bk.ab bu))) ∧ F' = []) := by
  have := cov_spec sb bu bn (os.map (Bk.ab bu)) (by rw [List.length_map]; omega) p c E (by rw [List.length_map, fl_ab]; exact hR)
  rw [List.length_map] at this
  exact this

set_option maxHeartbeats 4000000 in
theorem add_spec (sb : Nat) (bu bn : Int) (hbu : U bu) (hbn : U bn) (f : Nat) (hf : (bn - bu) % 4294967296 = (f : Int)) (hf2 : f ≤ 2147483647) (os : List Bk) (hlen : os.length ≤ 16) (p : Option Addr) (c : Nat) (E : List (Nat × Obj)) (hR : Row (.slice p os.length c) os.length (fl (bkc bu) os) 2 73 E) (hos : BInv f os) (q : Int × Int) : Sp Tryz.prog 41 #[.pointer (some ⟨sb, 0, none⟩), .agg ⟨[.int .u32 q.1, .int .u32 q.2]⟩] ((sb, C (bdL bu bn (.slice p os.length c)) 85) :: E) (fun v F' => ∃ os' r bv' E', v = .int .u32 r ∧ AddR bu bn os q os' r ∧ Row bv' os'.length (fl (bkc bu) os') 2 73 E' ∧ F' = (sb, C (bdL bu bn bv') 85) :: E') := by
  refine f_enter (args := [.pointer (some ⟨sb, 0, none⟩), .agg ⟨[.int .u32 q.1, .int .u32 q.2]⟩]) Tryz.func41 rfl Tryz.ntmps41 rfl ?_
  intro w0 w a hpre hl hh
  have hi1 := i32_bd ((q.1 - bu) % 4294967296); have hi2 := i32_bd ((q.2 - bu) % 4294967296)
  simp only [slotsFrom, Nat.reduceAdd] at hl
  refine c_seq ?_
  refine c_region ?_
  refine wl (w_box hl hh rfl trivial rfl rfl ?_)
  clear hl hh a w; intro k3 a w hl hh
  refine wl (wl_val hl rfl trivial (r_assign hl rfl) ?_)
  clear hl a; intro a hl
  refine w_nil ?_
  have hl2 := hl.add (t := 0) (hl.add (t := 3) (hl.nil) rfl) rfl; clear hl; have hl := hl2; clear hl2
  refine then_normal ?_
  refine c_seq ?_
  refine c_draw [(k3, C [.int .u32 q.1, .int .u32 q.2] 73), (sb, C (bdL bu bn (.slice p os.length c)) 85)] [19] mixed hh ?_
  clear hh w; intro w hh
  have hM : Mem [(k3, C [.int .u32 q.1, .int .u32 q.2] 73), (sb, C (bdL bu bn (.slice p os.length c)) 85)] w := (by (repeat (first | exact Mem.nil | refine Mem.cons hh.mem (by (repeat (first | exact find_head | apply find_tail)); done) ?_ | refine Mem.consR hh (by assumption) (by simp) ?_ | fail)); done)
  refine d_take (i := 0) hl rfl (by kernel_rfl) (by kernel_rfl) (by kernel_rfl) (by kernel_rfl) (by kernel_rfl) rfl trivial (fun _ _ _ h => h) hM (fun w hC => r_field hl rfl fld73_0) rfl ?_
  clear hl a; intro a hl
  refine d_take (i := 1) hl rfl (by kernel_rfl) (by kernel_rfl) (by kernel_rfl) (by kernel_rfl) (by kernel_rfl) rfl trivial (fun _ _ _ h => h) hM (fun w hC => r_loadC hl rfl one29 hC (by repeat (first | exact find_head | apply find_tail)) (by first | exact hye | rfl)) rfl ?_
  clear hl a; intro a hl
  refine d_take (i := 2) hl rfl (by kernel_rfl) (by kernel_rfl) (by kernel_rfl) (by kernel_rfl) (by kernel_rfl) rfl trivial (fun _ _ _ h => h) hM (fun w hC => r_move hl rfl) rfl ?_
  clear hl a; intro a hl
  refine d_take (i := 3) hl rfl (by kernel_rfl) (by kernel_rfl) (by kernel_rfl) (by kernel_rfl) (by kernel_rfl) rfl trivial (fun _ _ _ h => h) hM (fun w hC => r_nilCheck hl rfl) rfl ?_
  clear hl a; intro a hl
  refine d_take (i := 4) hl rfl (by kernel_rfl) (by kernel_rfl) (by kernel_rfl) (by kernel_rfl) (by kernel_rfl) rfl trivial (fun _ _ _ h => h) hM (fun w hC => r_field hl rfl fld85_0) rfl ?_
  clear hl a; intro a hl
  refine d_take (i := 5) hl rfl (by kernel_rfl) (by kernel_rfl) (by kernel_rfl) (by kernel_rfl) (by kernel_rfl) rfl trivial (fun _ _ _ h => h) hM (fun w hC => r_loadC hl rfl one29 hC (by repeat (first | exact find_head | apply find_tail)) (by first | exact hye | rfl)) rfl ?_
  clear hl a; intro a hl
  refine d_take (i := 6) hl rfl (by kernel_rfl) (by kernel_rfl) (by kernel_rfl) (by kernel_rfl) (by kernel_rfl) rfl trivial (fun _ _ _ h => h) hM (fun w hC => r_subM wm_u32 hl rfl rfl) rfl ?_
  clear hl a; intro a hl
  first | refine d_take (i := 7) hl rfl (by kernel_rfl) (by kernel_rfl) (by kernel_rfl) (by kernel_rfl) (by kernel_rfl) rfl trivial (fun _ _ _ h => h) hM (fun w hC => r_conv hl rfl Tryz.underlying29 Tryz.underlying21 (by simp only [Fits]; omega)) rfl ?_ | refine d_take (i := 7) hl rfl (by kernel_rfl) (by kernel_rfl) (by kernel_rfl) (by kernel_rfl) (by kernel_rfl) rfl trivial (fun _ _ _ h => h) hM (fun w hC => r_convW hl rfl Tryz.underlying29 Tryz.underlying21) rfl ?_
  clear hl a; intro a hl
  first | refine d_take (i := 8) hl rfl (by kernel_rfl) (by kernel_rfl) (by kernel_rfl) (by kernel_rfl) (by kernel_rfl) rfl trivial (fun _ _ _ h => h) hM (fun w hC => r_conv hl rfl Tryz.underlying21 Tryz.underlying2 (by simp only [Fits]; omega)) rfl ?_ | refine d_take (i := 8) hl rfl (by kernel_rfl) (by kernel_rfl) (by kernel_rfl) (by kernel_rfl) (by kernel_rfl) rfl trivial (fun _ _ _ h => h) hM (fun w hC => r_convW hl rfl Tryz.underlying21 Tryz.underlying2) rfl ?_
  clear hl a; intro a hl
  refine d_take (i := 9) hl rfl (by kernel_rfl) (by kernel_rfl) (by kernel_rfl) (by kernel_rfl) (by kernel_rfl) rfl trivial (fun _ _ _ h => h) hM (fun w hC => r_field hl rfl fld73_1) rfl ?_
  clear hl a; intro a hl
  refine d_take (i := 10) hl rfl (by kernel_rfl) (by kernel_rfl) (by kernel_rfl) (by kernel_rfl) (by kernel_rfl) rfl trivial (fun _ _ _ h => h) hM (fun w hC => r_loadC hl rfl one29 hC (by repeat (first | exact find_head | apply find_tail)) (by first | exact hye | rfl)) rfl ?_
  clear hl a; intro a hl
  refine d_take (i := 11) hl rfl (by kernel_rfl) (by kernel_rfl) (by kernel_rfl) (by kernel_rfl) (by kernel_rfl) rfl trivial (fun _ _ _ h => h) hM (fun w hC => r_move hl rfl) rfl ?_
  clear hl a; intro a hl
  refine d_take (i := 12) hl rfl (by kernel_rfl) (by kernel_rfl) (by kernel_rfl) (by kernel_rfl) (by kernel_rfl) rfl trivial (fun _ _ _ h => h) hM (fun w hC => r_nilCheck hl rfl) rfl ?_
  clear hl a; intro a hl
  refine d_take (i := 13) hl rfl (by kernel_rfl) (by kernel_rfl) (by kernel_rfl) (by kernel_rfl) (by kernel_rfl) rfl trivial (fun _ _ _ h => h) hM (fun w hC => r_field hl rfl fld85_0) rfl ?_
  clear hl a; intro a hl
  refine d_take (i := 14) hl rfl (by kernel_rfl) (by kernel_rfl) (by kernel_rfl) (by kernel_rfl) (by kernel_rfl) rfl trivial (fun _ _ _ h => h) hM (fun w hC => r_loadC hl rfl one29 hC (by repeat (first | exact find_head | apply find_tail)) (by first | exact hye | rfl)) rfl ?_
  clear hl a; intro a hl
  refine d_take (i := 15) hl rfl (by kernel_rfl) (by kernel_rfl) (by kernel_rfl) (by kernel_rfl) (by kernel_rfl) rfl trivial (fun _ _ _ h => h) hM (fun w hC => r_subM wm_u32 hl rfl rfl) rfl ?_
  clear hl a; intro a hl
  first | refine d_take (i := 16) hl rfl (by kernel_rfl) (by kernel_rfl) (by kernel_rfl) (by kernel_rfl) (by kernel_rfl) rfl trivial (fun _ _ _ h => h) hM (fun w hC => r_conv hl rfl Tryz.underlying29 Tryz.underlying21 (by simp only [Fits]; omega)) rfl ?_ | refine d_take (i := 16) hl rfl (by kernel_rfl) (by kernel_rfl) (by kernel_rfl) (by kernel_rfl) (by kernel_rfl) rfl trivial (fun _ _ _ h => h) hM (fun w hC => r_convW hl rfl Tryz.underlying29 Tryz.underlying21) rfl ?_
  clear hl a; intro a hl
  first | refine d_take (i := 17) hl rfl (by kernel_rfl) (by kernel_rfl) (by kernel_rfl) (by kernel_rfl) (by kernel_rfl) rfl trivial (fun _ _ _ h => h) hM (fun w hC => r_conv hl rfl Tryz.underlying21 Tryz.underlying2 (by simp only [Fits]; omega)) rfl ?_ | refine d_take (i := 17) hl rfl (by kernel_rfl) (by kernel_rfl) (by kernel_rfl) (by kernel_rfl) (by kernel_rfl) rfl trivial (fun _ _ _ h => h) hM (fun w hC => r_convW hl rfl Tryz.underlying21 Tryz.underlying2) rfl ?_
  clear hl a; intro a hl
  refine d_take (i := 18) hl rfl (by kernel_rfl) (by kernel_rfl) (by kernel_rfl) (by kernel_rfl) (by kernel_rfl) rfl trivial (fun _ _ _ h => h) hM (fun w hC => r_assign hl rfl) rfl ?_
  clear hl a; intro a hl
  refine d_takeL (i := 19) hl rfl (by kernel_rfl) (by kernel_rfl) (by kernel_rfl) (by kernel_rfl) (by kernel_rfl) rfl trivial (fun _ _ _ h => h) (fun w => r_assign hl rfl) rfl ?_
  clear hl a; intro a hl
  refine d_done (by kernel_rfl) ?_
  try clear hM
  have hl2 := hl.add (t := 0) (hl.add (t := 5) (hl.add (t := 6) (hl.nil) rfl) rfl) rfl; clear hl; have hl := hl2; clear hl2
  refine then_normal ?_
  refine c_seq ?_
  refine c_draw [(sb, C (bdL bu bn (.slice p os.length c)) 85)] [15] mixed hh ?_
  clear hh w; intro w hh
  have hM : Mem [(sb, C (bdL bu bn (.slice p os.length c)) 85)] w := (by (repeat (first | exact Mem.nil | refine Mem.cons hh.mem (by (repeat (first | exact find_head | apply find_tail)); done) ?_ | refine Mem.consR hh (by assumption) (by simp) ?_ | fail)); done)
  refine d_take (i := 0) hl rfl (by kernel_rfl) (by kernel_rfl) (by kernel_rfl) (by kernel_rfl) (by kernel_rfl) rfl trivial (fun _ _ _ h => h) hM (fun w hC => r_move hl rfl) rfl ?_
  clear hl a; intro a hl
  refine d_take (i := 1) hl rfl (by kernel_rfl) (by kernel_rfl) (by kernel_rfl) (by kernel_rfl) (by kernel_rfl) rfl trivial (fun _ _ _ h => h) hM (fun w hC => r_maxI hl rfl rfl) rfl ?_
  clear hl a; intro a hl
  refine d_take (i := 2) hl rfl (by kernel_rfl) (by kernel_rfl) (by kernel_rfl) (by kernel_rfl) (by kernel_rfl) rfl trivial (fun _ _ _ h => h) hM (fun w hC => r_move hl rfl) rfl ?_
  clear hl a; intro a hl
  refine d_take (i := 3) hl rfl (by kernel_rfl) (by kernel_rfl) (by kernel_rfl) (by kernel_rfl) (by kernel_rfl) rfl trivial (fun _ _ _ h => h) hM (fun w hC => r_move hl rfl) rfl ?_
  clear hl a; intro a hl
  refine d_take (i := 4) hl rfl (by kernel_rfl) (by kernel_rfl) (by kernel_rfl) (by kernel_rfl) (by kernel_rfl) rfl trivial (fun _ _ _ h => h) hM (fun w hC => r_nilCheck hl rfl) rfl ?_
  clear hl a; intro a hl
  refine d_take (i := 5) hl rfl (by kernel_rfl) (by kernel_rfl) (by kernel_rfl) (by kernel_rfl) (by kernel_rfl) rfl trivial (fun _ _ _ h => h) hM (fun w hC => r_field hl rfl fld85_1) rfl ?_
  clear hl a; intro a hl
  refine d_take (i := 6) hl rfl (by kernel_rfl) (by kernel_rfl) (by kernel_rfl) (by kernel_rfl) (by kernel_rfl) rfl trivial (fun _ _ _ h => h) hM (fun w hC => r_loadC hl rfl one29 hC (by repeat (first | exact find_head | apply find_tail)) (by first | exact hye | rfl)) rfl ?_
  clear hl a; intro a hl
  refine d_take (i := 7) hl rfl (by kernel_rfl) (by kernel_rfl) (by kernel_rfl) (by kernel_rfl) (by kernel_rfl) rfl trivial (fun _ _ _ h => h) hM (fun w hC => r_move hl rfl) rfl ?_
  clear hl a; intro a hl
  refine d_take (i := 8) hl rfl (by kernel_rfl) (by kernel_rfl) (by kernel_rfl) (by kernel_rfl) (by kernel_rfl) rfl trivial (fun _ _ _ h => h) hM (fun w hC => r_nilCheck hl rfl) rfl ?_
  clear hl a; intro a hl
  refine d_take (i := 9) hl rfl (by kernel_rfl) (by kernel_rfl) (by kernel_rfl) (by kernel_rfl) (by kernel_rfl) rfl trivial (fun _ _ _ h => h) hM (fun w hC => r_field hl rfl fld85_0) rfl ?_
  clear hl a; intro a hl
  refine d_take (i := 10) hl rfl (by kernel_rfl) (by kernel_rfl) (by kernel_rfl) (by kernel_rfl) (by kernel_rfl) rfl trivial (fun _ _ _ h => h) hM (fun w hC => r_loadC hl rfl one29 hC (by repeat (first | exact find_head | apply find_tail)) (by first | exact hye | rfl)) rfl ?_
  clear hl a; intro a hl
  refine d_take (i := 11) hl rfl (by kernel_rfl) (by kernel_rfl) (by kernel_rfl) (by kernel_rfl) (by kernel_rfl) rfl trivial (fun _ _ _ h => h) hM (fun w hC => r_subM wm_u32 hl rfl rfl) rfl ?_
  clear hl a; intro a hl
  first | refine d_take (i := 12) hl rfl (by kernel_rfl) (by kernel_rfl) (by kernel_rfl) (by kernel_rfl) (by kernel_rfl) rfl trivial (fun _ _ _ h => h) hM (fun w hC => r_conv hl rfl Tryz.underlying29 Tryz.underlying2 (by simp only [Fits]; omega)) rfl ?_ | refine d_take (i := 12) hl rfl (by kernel_rfl) (by kernel_rfl) (by kernel_rfl) (by kernel_rfl) (by kernel_rfl) rfl trivial (fun _ _ _ h => h) hM (fun w hC => r_convW hl rfl Tryz.underlying29 Tryz.underlying2) rfl ?_
  clear hl a; intro a hl
  refine d_take (i := 13) hl rfl (by kernel_rfl) (by kernel_rfl) (by kernel_rfl) (by kernel_rfl) (by kernel_rfl) rfl trivial (fun _ _ _ h => h) hM (fun w hC => r_minI hl rfl rfl) rfl ?_
  clear hl a; intro a hl
  refine d_take (i := 14) hl rfl (by kernel_rfl) (by kernel_rfl) (by kernel_rfl) (by kernel_rfl) (by kernel_rfl) rfl trivial (fun _ _ _ h => h) hM (fun w hC => r_assign hl rfl) rfl ?_
  clear hl a; intro a hl
  refine d_takeL (i := 15) hl rfl (by kernel_rfl) (by kernel_rfl) (by kernel_rfl) (by kernel_rfl) (by kernel_rfl) rfl trivial (fun _ _ _ h => h) (fun w => r_assign hl rfl) rfl ?_
  clear hl a; intro a hl
  refine d_done (by kernel_rfl) ?_
  try clear hM
  have hl2 := hl.add (t := 0) (hl.add (t := 5) (hl.add (t := 6) (hl.nil) rfl) rfl) rfl; clear hl; have hl := hl2; clear hl2
  refine then_normal ?_
  refine c_seq ?_
  refine c_seq ?_
  refine c_region ?_
  refine wl (wl_val hl rfl trivial (r_move hl rfl) ?_)
  clear hl a; intro a hl
  refine wl (wl_val hl rfl trivial (r_move hl rfl) ?_)
  clear hl a; intro a hl
  refine wl (wl_val hl rfl trivial (r_geq hl rfl rfl) ?_)
  clear hl a; intro a hl
  refine w_nil ?_
  have hl2 := hl.add (t := 0) (hl.add (t := 5) (hl.add (t := 6) (hl.add (t := 47) (hl.nil) rfl) rfl) rfl) rfl; clear hl; have hl := hl2; clear hl2
  refine then_normal ?_
  refine c_cond hl rfl ?_ ?_
  · intro hc0
    try simp only [decide_eq_true_eq, decide_eq_false_iff_not, Bool.not_eq_true', Bool.not_eq_false', Bool.not_eq_true, Bool.not_eq_false, Bool.and_eq_true, Bool.or_eq_true, Bool.and_eq_false_iff, Bool.or_eq_false_iff, Bool.not_not, ne_eq, Int.not_lt, Int.not_le, Decidable.not_not, beq_iff_eq, bne_iff_ne] at hc0
    have hlo : addHi bu bn q ≤ addLo bu q := hc0
    refine c_seq ?_
    refine c_region ?_
    refine wl (wl_val hl rfl trivial (r_assign hl rfl) ?_)
    clear hl a; intro a hl
    refine w_nil ?_
    have hl2 := hl.add (t := 4) (hl.nil) rfl; clear hl; have hl := hl2; clear hl2
    refine then_normal ?_
    refine wp_ret ?_
    refine then_ret ?_
    refine f_ret1 (F' := (sb, C (bdL bu bn (.slice p os.length c)) 85) :: E) hl hh rfl rfl (by repeat (first | exact keeps_nil | apply keeps_cons (by repeat (first | exact find_head | apply find_tail)) (by first  | rfl) | exact keeps_self | exact keeps_left | exact keeps_right | exact keeps_swap | apply keeps_mv)) ?_
    exact ⟨os, 0, _, E, rfl, .inl ⟨hlo, rfl, rfl⟩, hR, rfl⟩
  · intro hc0
    try simp only [decide_eq_true_eq, decide_eq_false_iff_not, Bool.not_eq_true', Bool.not_eq_false', Bool.not_eq_true, Bool.not_eq_false, Bool.and_eq_true, Bool.or_eq_true, Bool.and_eq_false_iff, Bool.or_eq_false_iff, Bool.not_not, ne_eq, Int.not_lt, Int.not_le, Decidable.not_not, beq_iff_eq, bne_iff_ne] at hc0
    have hlo : addLo bu q < addHi bu bn q := hc0
    have hL0 : 0 ≤ addLo bu q := by unfold addLo; omega
    have hL1 : addLo bu q < 2147483648 := by unfold addLo; omega
    have hH1 : addHi bu bn q ≤ f := by unfold addHi; omega
    rw [show max (IntKind.i32.wrap ((q.1 - bu) % 4294967296)) 0 = addLo bu q from rfl, show min (IntKind.i32.wrap ((q.2 - bu) % 4294967296)) ((bn - bu) % 4294967296) = addHi bu bn q from rfl] at hl
    have hX : fl (bkc bu) [addX bu bn q] = [.int .u32 ((bu + addLo bu q) % 4294967296), .int .u32 ((bu + addHi bu bn q) % 4294967296)] := by simp [fl, bkc, pc, addX, mkBk_ab hL0 hL1 (show 0 ≤ addHi bu bn q by omega)]
    refine wp_skip ?_
    refine then_normal ?_
    refine c_seq ?_
    refine cut_region (fun a w => ∃ (k7 bb cc : Nat) (jj : List Value) (xs : List Bk), (xs = os ++ [addX bu bn q] ∧ (fl (bkc bu) xs ++ jj).length = cc * 2 ∧ xs.length ≤ cc) ∧ Sl 126 [(0, .pointer (some ⟨sb, 0, none⟩)), (7, .pointer (some ⟨k7, 0, none⟩))] a ∧ Has (List.map Prod.fst ((sb, C (bdL bu bn (.slice p os.length c)) 85) :: E)) w0 ((k7, C [.slice (some ⟨bb, 0, none⟩) xs.length cc] 48) :: (bb, C (fl (bkc bu) xs ++ jj) 73) :: (sb, C (bdL bu bn (.slice p os.length c)) 85) :: E) w) ?_ ?_
    ·
      refine c_draw [(sb, C (bdL bu bn (.slice p os.length c)) 85)] [20] mixed hh ?_
      clear hh w; intro w hh
      have hM : Mem [(sb, C (bdL bu bn (.slice p os.length c)) 85)] w := (by (repeat (first | exact Mem.nil | refine Mem.cons hh.mem (by (repeat (first | exact find_head | apply find_tail)); done) ?_ | refine Mem.consR hh (by assumption) (by simp) ?_ | fail)); done)
      refine d_take (i := 0) hl rfl (by kernel_rfl) (by kernel_rfl) (by kernel_rfl) (by kernel_rfl) (by kernel_rfl) rfl trivial (fun _ _ _ h => by cases h.1) hM (fun w hC => r_move hl rfl) rfl ?_
      clear hl a; intro a hl
      refine d_take (i := 2) hl rfl (by kernel_rfl) (by kernel_rfl) (by kernel_rfl) (by kernel_rfl) (by kernel_rfl) rfl trivial (fun _ _ _ h => by cases h.1) hM (fun w hC => r_move hl rfl) rfl ?_
      clear hl a; intro a hl
      refine d_take (i := 3) hl rfl (by kernel_rfl) (by kernel_rfl) (by kernel_rfl) (by kernel_rfl) (by kernel_rfl) rfl trivial (fun _ _ _ h => by cases h.1) hM (fun w hC => r_nilCheck hl rfl) rfl ?_
      clear hl a; intro a hl
      refine d_take (i := 4) hl rfl (by kernel_rfl) (by kernel_rfl) (by kernel_rfl) (by kernel_rfl) (by kernel_rfl) rfl trivial (fun _ _ _ h => by cases h.1) hM (fun w hC => r_field hl rfl fld85_0) rfl ?_
      clear hl a; intro a hl
      refine d_take (i := 5) hl rfl (by kernel_rfl) (by kernel_rfl) (by kernel_rfl) (by kernel_rfl) (by kernel_rfl) rfl trivial (fun _ _ _ h => by cases h.1) hM (fun w hC => r_loadC hl rfl one29 hC (by repeat (first | exact find_head | apply find_tail)) (by first | exact hye | rfl)) rfl ?_
      clear hl a; intro a hl
      refine d_take (i := 6) hl rfl (by kernel_rfl) (by kernel_rfl) (by kernel_rfl) (by kernel_rfl) (by kernel_rfl) rfl trivial (fun _ _ _ h => by cases h.1) hM (fun w hC => r_move hl rfl) rfl ?_
      clear hl a; intro a hl
      first | refine d_take (i := 7) hl rfl (by kernel_rfl) (by kernel_rfl) (by kernel_rfl) (by kernel_rfl) (by kernel_rfl) rfl trivial (fun _ _ _ h => by cases h.1) hM (fun w hC => r_conv hl rfl Tryz.underlying2 Tryz.underlying29 (by simp only [Fits]; omega)) rfl ?_ | refine d_take (i := 7) hl rfl (by kernel_rfl) (by kernel_rfl) (by kernel_rfl) (by kernel_rfl) (by kernel_rfl) rfl trivial (fun _ _ _ h => by cases h.1) hM (fun w hC => r_convM wm_u32 hl rfl Tryz.underlying2 Tryz.underlying29) rfl ?_
      clear hl a; intro a hl
      refine d_take (i := 8) hl rfl (by kernel_rfl) (by kernel_rfl) (by kernel_rfl) (by kernel_rfl) (by kernel_rfl) rfl trivial (fun _ _ _ h => by cases h.1) hM (fun w hC => r_addM wm_u32 hl rfl rfl) rfl ?_
      clear hl a; intro a hl
      refine d_take (i := 9) hl rfl (by kernel_rfl) (by kernel_rfl) (by kernel_rfl) (by kernel_rfl) (by kernel_rfl) rfl trivial (fun _ _ _ h => by cases h.1) hM (fun w hC => r_move hl rfl) rfl ?_
      clear hl a; intro a hl
      refine d_take (i := 10) hl rfl (by kernel_rfl) (by kernel_rfl) (by kernel_rfl) (by kernel_rfl) (by kernel_rfl) rfl trivial (fun _ _ _ h => by cases h.1) hM (fun w hC => r_nilCheck hl rfl) rfl ?_
      clear hl a; intro a hl
      refine d_take (i := 11) hl rfl (by kernel_rfl) (by kernel_rfl) (by kernel_rfl) (by kernel_rfl) (by kernel_rfl) rfl trivial (fun _ _ _ h => by cases h.1) hM (fun w hC => r_field hl rfl fld85_0) rfl ?_
      clear hl a; intro a hl
      refine d_take (i := 12) hl rfl (by kernel_rfl) (by kernel_rfl) (by kernel_rfl) (by kernel_rfl) (by kernel_rfl) rfl trivial (fun _ _ _ h => by cases h.1) hM (fun w hC => r_loadC hl rfl one29 hC (by repeat (first | exact find_head | apply find_tail)) (by first | exact hye | rfl)) rfl ?_
      clear hl a; intro a hl
      refine d_take (i := 13) hl rfl (by kernel_rfl) (by kernel_rfl) (by kernel_rfl) (by kernel_rfl) (by kernel_rfl) rfl trivial (fun _ _ _ h => by cases h.1) hM (fun w hC => r_move hl rfl) rfl ?_
      clear hl a; intro a hl
      first | refine d_take (i := 14) hl rfl (by kernel_rfl) (by kernel_rfl) (by kernel_rfl) (by kernel_rfl) (by kernel_rfl) rfl trivial (fun _ _ _ h => by cases h.1) hM (fun w hC => r_conv hl rfl Tryz.underlying2 Tryz.underlying29 (by simp only [Fits]; omega)) rfl ?_ | refine d_take (i := 14) hl rfl (by kernel_rfl) (by kernel_rfl) (by kernel_rfl) (by kernel_rfl) (by kernel_rfl) rfl trivial (fun _ _ _ h => by cases h.1) hM (fun w hC => r_convM wm_u32 hl rfl Tryz.underlying2 Tryz.underlying29) rfl ?_
      clear hl a; intro a hl
      refine d_take (i := 15) hl rfl (by kernel_rfl) (by kernel_rfl) (by kernel_rfl) (by kernel_rfl) (by kernel_rfl) rfl trivial (fun _ _ _ h => by cases h.1) hM (fun w hC => r_addM wm_u32 hl rfl rfl) rfl ?_
      clear hl a; intro a hl
      refine d_take (i := 16) hl rfl (by kernel_rfl) (by kernel_rfl) (by kernel_rfl) (by kernel_rfl) (by kernel_rfl) rfl trivial (fun _ _ _ h => by cases h.1) hM (fun w hC => r_build hl rfl zero73 bld73 (by simp only [fillL, setL, List.getElem?_cons_zero, List.getElem?_cons_succ, Value.cells, List.take_zero, List.take_succ_cons, List.take_nil, List.drop_zero, List.drop_succ_cons, List.drop_nil, List.length_cons, List.length_nil, List.cons_append, List.nil_append, List.append_nil, Nat.zero_add, Nat.add_zero, Nat.reduceAdd, Nat.reduceBEq, Nat.reduceEqDiff, Nat.ble, BEq.rfl, Bool.and_true, Bool.and_self, cond_true, beq_self_eq_true]; rfl)) rfl ?_
      clear hl a; intro a hl
      refine d_three (i := 1) (j := 17) (k := 19) (by kernel_rfl) rfl rfl rfl ?_ ?_ ?_
      ·
        try clear hM
        refine id (w_call hl hh rfl trivial rfl cal56 rfl (blocksO_spec sb bu bn os hlen p c E hR) (by repeat (first | exact keeps_nil | apply keeps_cons (by repeat (first | exact find_head | apply find_tail)) (by first  | rfl) | exact keeps_self | exact keeps_left | exact keeps_right | exact keeps_swap | apply keeps_mv)) ⟨(hh.mem _ _ (Find.mem (by repeat (first | exact find_head | apply find_tail)))), fun b o m => hh.mem b o (by simp [m])⟩ ?_)
        clear hl hh a w; intro vc Fc a w hR hl hh
        try simp only [List.cons_append, List.nil_append] at hh
        have hR3 := hR
        clear hR
        replace hh := hh.comm
        simp only [List.cons_append, List.nil_append] at hh
        have hM : Mem [(sb, C (bdL bu bn (.slice p os.length c)) 85)] w := (by (repeat (first | exact Mem.nil | refine Mem.cons hh.mem (by (repeat (first | exact find_head | apply find_tail)); done) ?_ | refine Mem.consR hh (by assumption) (by simp) ?_ | fail)); done)
        refine d_step (fun _ => hM) ?_
        refine d_two (i := 17) (j := 19) (by kernel_rfl) rfl rfl ?_ ?_
        ·
          try clear hM
          refine id (w_buildSlice hl hh rfl trivial app48 zero73 rfl rfl rfl rfl rfl (by simp only [fillL, arrPl, List.range_succ, List.range_zero, List.map_cons, List.map_nil, List.map_append, List.nil_append, List.replicate_succ, List.replicate_zero, List.flatten_cons, List.flatten_nil, Nat.zero_mul, Nat.mul_one, Nat.one_mul, Nat.reduceMul, setL, List.getElem?_cons_zero, List.getElem?_cons_succ, Value.cells, List.take_zero, List.take_succ_cons, List.take_nil, List.drop_zero, List.drop_succ_cons, List.drop_nil, List.length_cons, List.length_nil, List.cons_append, List.nil_append, List.append_nil, Nat.zero_add, Nat.add_zero, Nat.reduceAdd, Nat.reduceBEq, Nat.reduceEqDiff, Nat.ble, BEq.rfl, Bool.and_true, Bool.and_self, cond_true, beq_self_eq_true]; rfl) ?_)
          clear hl hh a w; intro k65 a w hl hh
          have hM : Mem [(sb, C (bdL bu bn (.slice p os.length c)) 85)] w := (by (repeat (first | exact Mem.nil | refine Mem.cons hh.mem (by (repeat (first | exact find_head | apply find_tail)); done) ?_ | refine Mem.consR hh (by assumption) (by simp) ?_ | fail)); done)
          refine d_step (fun _ => hM) ?_
          refine d_two (i := 18) (j := 19) (by kernel_rfl) rfl rfl ?_ ?_
          ·
            try clear hM
            refine id (w_append (news := [.int .u32 ((bu + addLo bu q) % 4294967296), .int .u32 ((bu + addHi bu bn q) % 4294967296)]) hl hh rfl trivial app48 rfl rfl rfl hR3 (by repeat (first | exact keeps_nil | apply keeps_cons (by repeat (first | exact find_head | apply find_tail)) (by first  | rfl) | exact keeps_self | exact keeps_left | exact keeps_right | exact keeps_swap | apply keeps_mv)) (hh.mem _ _ (Find.mem (by repeat (first | exact find_head | apply find_tail)))) rfl rfl rfl (by omega) (by omega) (by omega) (by decide) ?_)
            clear hl hh a w; intro rv2 E2 a w hR2 hl hh
            have hh3 := hh.comm; clear hh; have hh := hh3; clear hh3
            simp only [List.cons_append, List.nil_append] at hh
            have hR4 : Row rv2 (os ++ [addX bu bn q]).length (fl (bkc bu) (os ++ [addX bu bn q])) 2 73 E2 := by rw [List.length_append, fl_append, hX]; exact hR2
            obtain ⟨xs, hxs⟩ : ∃ z, z = os ++ [addX bu bn q] := ⟨_, rfl⟩
            rw [← hxs] at hR4
            obtain ⟨bb, cc, jj, hv4, hjl, hcc, hE4⟩ := row_blk3 hR4 (by rw [hxs]; simp)
            subst hv4
            subst hE4
            first | replace hh := has_rot (A := [_, _, _, _]) hh | replace hh := has_rot (A := [_, _, _]) hh
            simp only [List.cons_append, List.nil_append] at hh
            have hM : Mem [(sb, C (bdL bu bn (.slice p os.length c)) 85)] w := (by (repeat (first | exact Mem.nil | refine Mem.cons hh.mem (by (repeat (first | exact find_head | apply find_tail)); done) ?_ | refine Mem.consR hh (by assumption) (by simp) ?_ | fail)); done)
            refine d_step (fun _ => hM) ?_
            refine d_one (i := 19) (by kernel_rfl) rfl ?_
            try clear hM
            refine id (w_alloc hl hh rfl trivial zero48 rfl ?_)
            clear hl hh a w; intro k7 a w hl hh
            have hM : Mem [(sb, C (bdL bu bn (.slice p os.length c)) 85)] w := (by (repeat (first | exact Mem.nil | refine Mem.cons hh.mem (by (repeat (first | exact find_head | apply find_tail)); done) ?_ | refine Mem.consR hh (by assumption) (by simp) ?_ | fail)); done)
            refine d_step (fun _ => hM) ?_
            refine d_one (i := 20) (by kernel_rfl) rfl ?_
            try clear hM
            refine id (w_store hl hh trivial one48 rfl rfl (by repeat (first | exact find_head | apply find_tail)) (by first | (simp; done) | (simp; omega) | (simp [bdL]; done) | (rw [List.length_append, fl_len (bkc_len bu)]; simp; omega)) (by first | rfl | assumption | (apply Row.one; assumption)) (by first | (exact fl_set1 bu cs y x.e jj _ hcy) | (simp only [bdL, setL, List.getElem?_cons_zero, List.getElem?_cons_succ, Value.cells, List.take_zero, List.take_succ_cons, List.take_nil, List.drop_zero, List.drop_succ_cons, List.drop_nil, List.length_cons, List.length_nil, List.cons_append, List.nil_append, List.append_nil, Nat.zero_add, Nat.add_zero, Nat.reduceAdd, Nat.reduceBEq, Nat.reduceEqDiff, Nat.ble, BEq.rfl, Bool.and_true, Bool.and_self, cond_true, beq_self_eq_true]; rfl) | (simp only [setL, List.getElem?_cons_zero, List.getElem?_cons_succ, Value.cells, List.take_zero, List.take_succ_cons, List.take_nil, List.drop_zero, List.drop_succ_cons, List.drop_nil, List.length_cons, List.length_nil, List.cons_append, List.nil_append, List.append_nil, Nat.zero_add, Nat.add_zero, Nat.reduceAdd, Nat.reduceBEq, Nat.reduceEqDiff, Nat.ble, BEq.rfl, Bool.and_true, Bool.and_self, cond_true, beq_self_eq_true]; rfl) | (simp only [setL, List.getElem?_cons_zero, List.getElem?_cons_succ, Value.cells, List.take_zero, List.take_succ_cons, List.take_nil, List.drop_zero, List.drop_succ_cons, List.drop_nil, List.length_cons, List.length_nil, List.cons_append, List.nil_append, List.append_nil, Nat.zero_add, Nat.add_zero, Nat.reduceAdd, Nat.reduceBEq, Nat.reduceEqDiff, Nat.ble, BEq.rfl, Bool.and_true, Bool.and_self, cond_true, beq_self_eq_true]; rfl)) ?_)
            clear hh w; intro w hh
            refine d_step (fun h => absurd h (by decide)) ?_
            refine d_done (by kernel_rfl) ?_
            try clear hM
            exact ⟨rfl, k7, bb, cc, jj, xs, ⟨hxs, hjl, hcc⟩, hl.addE (t := 0) (hl.addE (t := 7) (hl.nil) rfl (by first | rfl)) rfl (by first | rfl), hh.keep (by repeat (first | exact keeps_nil | apply keeps_cons (by repeat (first | exact find_head | apply find_tail)) (by first  | rfl) | exact keeps_self | exact keeps_left | exact keeps_right | exact keeps_swap | apply keeps_mv))⟩
          ·
            try clear hM
            refine id (w_alloc hl hh rfl trivial zero48 rfl ?_)
            clear hl hh a w; intro k7 a w hl hh
            have hM : Mem [(sb, C (bdL bu bn (.slice p os.length c)) 85)] w := (by (repeat (first | exact Mem.nil | refine Mem.cons hh.mem (by (repeat (first | exact find_head | apply find_tail)); done) ?_ | refine Mem.consR hh (by assumption) (by simp) ?_ | fail)); done)
            refine d_step (fun _ => hM) ?_
            refine d_one (i := 18) (by kernel_rfl) rfl ?_
            try clear hM
            refine id (w_append (news := [.int .u32 ((bu + addLo bu q) % 4294967296), .int .u32 ((bu + addHi bu bn q) % 4294967296)]) hl hh rfl trivial app48 rfl rfl rfl hR3 (by repeat (first | exact keeps_nil | apply keeps_cons (by repeat (first | exact find_head | apply find_tail)) (by first  | rfl) | exact keeps_self | exact keeps_left | exact keeps_right | exact keeps_swap | apply keeps_mv)) (hh.mem _ _ (Find.mem (by repeat (first | exact find_head | apply find_tail)))) rfl rfl rfl (by omega) (by omega) (by omega) (by decide) ?_)
            clear hl hh a w; intro rv2 E2 a w hR2 hl hh
            have hh3 := hh.comm; clear hh; have hh := hh3; clear hh3
            simp only [List.cons_append, List.nil_append] at hh
            have hR4 : Row rv2 (os ++ [addX bu bn q]).length (fl (bkc bu) (os ++ [addX bu bn q])) 2 73 E2 := by rw [List.length_append, fl_append, hX]; exact hR2
            obtain ⟨xs, hxs⟩ : ∃ z, z = os ++ [addX bu bn q] := ⟨_, rfl⟩
            rw [← hxs] at hR4
            obtain ⟨bb, cc, jj, hv4, hjl, hcc, hE4⟩ := row_blk3 hR4 (by rw [hxs]; simp)
            subst hv4
            subst hE4
            first | replace hh := has_rot (A := [_, _, _, _]) hh | replace hh := has_rot (A := [_, _, _]) hh
            simp only [List.cons_append, List.nil_append] at hh
            have hM : Mem [(sb, C (bdL bu bn (.slice p os.length c)) 85)] w := (by (repeat (first | exact Mem.nil | refine Mem.cons hh.mem (by (repeat (first | exact find_head | apply find_tail)); done) ?_ | refine Mem.consR hh (by assumption) (by simp) ?_ | fail)); done)
            refine d_step (fun _ => hM) ?_
            refine d_one (i := 20) (by kernel_rfl) rfl ?_
            try clear hM
            refine id (w_store hl hh trivial one48 rfl rfl (by repeat (first | exact find_head | apply find_tail)) (by first | (simp; done) | (simp; omega) | (simp [bdL]; done) | (rw [List.length_append, fl_len (bkc_len bu)]; simp; omega)) (by first | rfl | assumption | (apply Row.one; assumption)) (by first | (exact fl_set1 bu cs y x.e jj _ hcy) | (simp only [bdL, setL, List.getElem?_cons_zero, List.getElem?_cons_succ, Value.cells, List.take_zero, List.take_succ_cons, List.take_nil, List.drop_zero, List.drop_succ_cons, List.drop_nil, List.length_cons, List.length_nil, List.cons_append, List.nil_append, List.append_nil, Nat.zero_add, Nat.add_zero, Nat.reduceAdd, Nat.reduceBEq, Nat.reduceEqDiff, Nat.ble, BEq.rfl, Bool.and_true, Bool.and_self, cond_true, beq_self_eq_true]; rfl) | (simp only [setL, List.getElem?_cons_zero, List.getElem?_cons_succ, Value.cells, List.take_zero, List.take_succ_cons, List.take_nil, List.drop_zero, List.drop_succ_cons, List.drop_nil, List.length_cons, List.length_nil, List.cons_append, List.nil_append, List.append_nil, Nat.zero_add, Nat.add_zero, Nat.reduceAdd, Nat.reduceBEq, Nat.reduceEqDiff, Nat.ble, BEq.rfl, Bool.and_true, Bool.and_self, cond_true, beq_self_eq_true]; rfl) | (simp only [setL, List.getElem?_cons_zero, List.getElem?_cons_succ, Value.cells, List.take_zero, List.take_succ_cons, List.take_nil, List.drop_zero, List.drop_succ_cons, List.drop_nil, List.length_cons, List.length_nil, List.cons_append, List.nil_append, List.append_nil, Nat.zero_add, Nat.add_zero, Nat.reduceAdd, Nat.reduceBEq, Nat.reduceEqDiff, Nat.ble, BEq.rfl, Bool.and_true, Bool.and_self, cond_true, beq_self_eq_true]; rfl)) ?_)
            clear hh w; intro w hh
            refine d_step (fun h => absurd h (by decide)) ?_
            refine d_done (by kernel_rfl) ?_
            try clear hM
            exact ⟨rfl, k7, bb, cc, jj, xs, ⟨hxs, hjl, hcc⟩, hl.addE (t := 0) (hl.addE (t := 7) (hl.nil) rfl (by first | rfl)) rfl (by first | rfl), hh.keep (by repeat (first | exact keeps_nil | apply keeps_cons (by repeat (first | exact find_head | apply find_tail)) (by first  | rfl) | exact keeps_self | exact keeps_left | exact keeps_right | exact keeps_swap | apply keeps_mv))⟩
        ·
          try clear hM
          refine id (w_alloc hl hh rfl trivial zero48 rfl ?_)
          clear hl hh a w; intro k7 a w hl hh
          have hM : Mem [(sb, C (bdL bu bn (.slice p os.length c)) 85)] w := (by (repeat (first | exact Mem.nil | refine Mem.cons hh.mem (by (repeat (first | exact find_head | apply find_tail)); done) ?_ | refine Mem.consR hh (by assumption) (by simp) ?_ | fail)); done)
          refine d_step (fun _ => hM) ?_
          refine d_one (i := 17) (by kernel_rfl) rfl ?_
          try clear hM
          refine id (w_buildSlice hl hh rfl trivial app48 zero73 rfl rfl rfl rfl rfl (by simp only [fillL, arrPl, List.range_succ, List.range_zero, List.map_cons, List.map_nil, List.map_append, List.nil_append, List.replicate_succ, List.replicate_zero, List.flatten_cons, List.flatten_nil, Nat.zero_mul, Nat.mul_one, Nat.one_mul, Nat.reduceMul, setL, List.getElem?_cons_zero, List.getElem?_cons_succ, Value.cells, List.take_zero, List.take_succ_cons, List.take_nil, List.drop_zero, List.drop_succ_cons, List.drop_nil, List.length_cons, List.length_nil, List.cons_append, List.nil_append, List.append_nil, Nat.zero_add, Nat.add_zero, Nat.reduceAdd, Nat.reduceBEq, Nat.reduceEqDiff, Nat.ble, BEq.rfl, Bool.and_true, Bool.and_self, cond_true, beq_self_eq_true]; rfl) ?_)
          clear hl hh a w; intro k65 a w hl hh
          have hM : Mem [(sb, C (bdL bu bn (.slice p os.length c)) 85)] w := (by (repeat (first | exact Mem.nil | refine Mem.cons hh.mem (by (repeat (first | exact find_head | apply find_tail)); done) ?_ | refine Mem.consR hh (by assumption) (by simp) ?_ | fail)); done)
          refine d_step (fun _ => hM) ?_
          refine d_one (i := 18) (by kernel_rfl) rfl ?_
          try clear hM
          refine id (w_append (news := [.int .u32 ((bu + addLo bu q) % 4294967296), .int .u32 ((bu + addHi bu bn q) % 4294967296)]) hl hh rfl trivial app48 rfl rfl rfl hR3 (by repeat (first | exact keeps_nil | apply keeps_cons (by repeat (first | exact find_head | apply find_tail)) (by first  | rfl) | exact keeps_self | exact keeps_left | exact keeps_right | exact keeps_swap | apply keeps_mv)) (hh.mem _ _ (Find.mem (by repeat (first | exact find_head | apply find_tail)))) rfl rfl rfl (by omega) (by omega) (by omega) (by decide) ?_)
          clear hl hh a w; intro rv2 E2 a w hR2 hl hh
          have hh3 := hh.comm; clear hh; have hh := hh3; clear hh3
          simp only [List.cons_append, List.nil_append] at hh
          have hR4 : Row rv2 (os ++ [addX bu bn q]).length (fl (bkc bu) (os ++ [addX bu bn q])) 2 73 E2 := by rw [List.length_append, fl_append, hX]; exact hR2
          obtain ⟨xs, hxs⟩ : ∃ z, z = os ++ [addX bu bn q] := ⟨_, rfl⟩
          rw [← hxs] at hR4
          obtain ⟨bb, cc, jj, hv4, hjl, hcc, hE4⟩ := row_blk3 hR4 (by rw [hxs]; simp)
          subst hv4
          subst hE4
          first | replace hh := has_rot (A := [_, _, _, _]) hh | replace hh := has_rot (A := [_, _, _]) hh
          simp only [List.cons_append, List.nil_append] at hh
          have hM : Mem [(sb, C (bdL bu bn (.slice p os.length c)) 85)] w := (by (repeat (first | exact Mem.nil | refine Mem.cons hh.mem (by (repeat (first | exact find_head | apply find_tail)); done) ?_ | refine Mem.consR hh (by assumption) (by simp) ?_ | fail)); done)
          refine d_step (fun _ => hM) ?_
          refine d_one (i := 20) (by kernel_rfl) rfl ?_
          try clear hM
          refine id (w_store hl hh trivial one48 rfl rfl (by repeat (first | exact find_head | apply find_tail)) (by first | (simp; done) | (simp; omega) | (simp [bdL]; done) | (rw [List.length_append, fl_len (bkc_len bu)]; simp; omega)) (by first | rfl | assumption | (apply Row.one; assumption)) (by first | (exact fl_set1 bu cs y x.e jj _ hcy) | (simp only [bdL, setL, List.getElem?_cons_zero, List.getElem?_cons_succ, Value.cells, List.take_zero, List.take_succ_cons, List.take_nil, List.drop_zero, List.drop_succ_cons, List.drop_nil, List.length_cons, List.length_nil, List.cons_append, List.nil_append, List.append_nil, Nat.zero_add, Nat.add_zero, Nat.reduceAdd, Nat.reduceBEq, Nat.reduceEqDiff, Nat.ble, BEq.rfl, Bool.and_true, Bool.and_self, cond_true, beq_self_eq_true]; rfl) | (simp only [setL, List.getElem?_cons_zero, List.getElem?_cons_succ, Value.cells, List.take_zero, List.take_succ_cons, List.take_nil, List.drop_zero, List.drop_succ_cons, List.drop_nil, List.length_cons, List.length_nil, List.cons_append, List.nil_append, List.append_nil, Nat.zero_add, Nat.add_zero, Nat.reduceAdd, Nat.reduceBEq, Nat.reduceEqDiff, Nat.ble, BEq.rfl, Bool.and_true, Bool.and_self, cond_true, beq_self_eq_true]; rfl) | (simp only [setL, List.getElem?_cons_zero, List.getElem?_cons_succ, Value.cells, List.take_zero, List.take_succ_cons, List.take_nil, List.drop_zero, List.drop_succ_cons, List.drop_nil, List.length_cons, List.length_nil, List.cons_append, List.nil_append, List.append_nil, Nat.zero_add, Nat.add_zero, Nat.reduceAdd, Nat.reduceBEq, Nat.reduceEqDiff, Nat.ble, BEq.rfl, Bool.and_true, Bool.and_self, cond_true, beq_self_eq_true]; rfl)) ?_)
          clear hh w; intro w hh
          refine d_step (fun h => absurd h (by decide)) ?_
          refine d_done (by kernel_rfl) ?_
          try clear hM
          exact ⟨rfl, k7, bb, cc, jj, xs, ⟨hxs, hjl, hcc⟩, hl.addE (t := 0) (hl.addE (t := 7) (hl.nil) rfl (by first | rfl)) rfl (by first | rfl), hh.keep (by repeat (first | exact keeps_nil | apply keeps_cons (by repeat (first | exact find_head | apply find_tail)) (by first  | rfl) | exact keeps_self | exact keeps_left | exact keeps_right | exact keeps_swap | apply keeps_mv))⟩
      ·
        try clear hM
        refine id (w_buildSlice hl hh rfl trivial app48 zero73 rfl rfl rfl rfl rfl (by simp only [fillL, arrPl, List.range_succ, List.range_zero, List.map_cons, List.map_nil, List.map_append, List.nil_append, List.replicate_succ, List.replicate_zero, List.flatten_cons, List.flatten_nil, Nat.zero_mul, Nat.mul_one, Nat.one_mul, Nat.reduceMul, setL, List.getElem?_cons_zero, List.getElem?_cons_succ, Value.cells, List.take_zero, List.take_succ_cons, List.take_nil, List.drop_zero, List.drop_succ_cons, List.drop_nil, List.length_cons, List.length_nil, List.cons_append, List.nil_append, List.append_nil, Nat.zero_add, Nat.add_zero, Nat.reduceAdd, Nat.reduceBEq, Nat.reduceEqDiff, Nat.ble, BEq.rfl, Bool.and_true, Bool.and_self, cond_true, beq_self_eq_true]; rfl) ?_)
        clear hl hh a w; intro k65 a w hl hh
        have hM : Mem [(sb, C (bdL bu bn (.slice p os.length c)) 85)] w := (by (repeat (first | exact Mem.nil | refine Mem.cons hh.mem (by (repeat (first | exact find_head | apply find_tail)); done) ?_ | refine Mem.consR hh (by assumption) (by simp) ?_ | fail)); done)
        refine d_step (fun _ => hM) ?_
        refine d_two (i := 1) (j := 19) (by kernel_rfl) rfl rfl ?_ ?_
        ·
          try clear hM
          refine id (w_call hl hh rfl trivial rfl cal56 rfl (blocksO_spec sb bu bn os hlen p c E hR) (by repeat (first | exact keeps_nil | apply keeps_cons (by repeat (first | exact find_head | apply find_tail)) (by first  | rfl) | exact keeps_self | exact keeps_left | exact keeps_right | exact keeps_swap | apply keeps_mv)) ⟨(hh.mem _ _ (Find.mem (by repeat (first | exact find_head | apply find_tail)))), fun b o m => hh.mem b o (by simp [m])⟩ ?_)
          clear hl hh a w; intro vc Fc a w hR hl hh
          try simp only [List.cons_append, List.nil_append] at hh
          have hR3 := hR
          clear hR
          replace hh := hh.comm
          simp only [List.cons_append, List.nil_append] at hh
          have hM : Mem [(sb, C (bdL bu bn (.slice p os.length c)) 85)] w := (by (repeat (first | exact Mem.nil | refine Mem.cons hh.mem (by (repeat (first | exact find_head | apply find_tail)); done) ?_ | refine Mem.consR hh (by assumption) (by simp) ?_ | fail)); done)
          refine d_step (fun _ => hM) ?_
          refine d_two (i := 18) (j := 19) (by kernel_rfl) rfl rfl ?_ ?_
          ·
            try clear hM
            refine id (w_append (news := [.int .u32 ((bu + addLo bu q) % 4294967296), .int .u32 ((bu + addHi bu bn q) % 4294967296)]) hl hh rfl trivial app48 rfl rfl rfl hR3 (by repeat (first | exact keeps_nil | apply keeps_cons (by repeat (first | exact find_head | apply find_tail)) (by first  | rfl) | exact keeps_self | exact keeps_left | exact keeps_right | exact keeps_swap | apply keeps_mv)) (hh.mem _ _ (Find.mem (by repeat (first | exact find_head | apply find_tail)))) rfl rfl rfl (by omega) (by omega) (by omega) (by decide) ?_)
            clear hl hh a w; intro rv2 E2 a w hR2 hl hh
            have hh3 := hh.comm; clear hh; have hh := hh3; clear hh3
            simp only [List.cons_append, List.nil_append] at hh
            have hR4 : Row rv2 (os ++ [addX bu bn q]).length (fl (bkc bu) (os ++ [addX bu bn q])) 2 73 E2 := by rw [List.length_append, fl_append, hX]; exact hR2
            obtain ⟨xs, hxs⟩ : ∃ z, z = os ++ [addX bu bn q] := ⟨_, rfl⟩
            rw [← hxs] at hR4
            obtain ⟨bb, cc, jj, hv4, hjl, hcc, hE4⟩ := row_blk3 hR4 (by rw [hxs]; simp)
            subst hv4
            subst hE4
            first | replace hh := has_rot (A := [_, _, _, _]) hh | replace hh := has_rot (A := [_, _, _]) hh
            simp only [List.cons_append, List.nil_append] at hh
            have hM : Mem [(sb, C (bdL bu bn (.slice p os.length c)) 85)] w := (by (repeat (first | exact Mem.nil | refine Mem.cons hh.mem (by (repeat (first | exact find_head | apply find_tail)); done) ?_ | refine Mem.consR hh (by assumption) (by simp) ?_ | fail)); done)
            refine d_step (fun _ => hM) ?_
            refine d_one (i := 19) (by kernel_rfl) rfl ?_
            try clear hM
            refine id (w_alloc hl hh rfl trivial zero48 rfl ?_)
            clear hl hh a w; intro k7 a w hl hh
            have hM : Mem [(sb, C (bdL bu bn (.slice p os.length c)) 85)] w := (by (repeat (first | exact Mem.nil | refine Mem.cons hh.mem (by (repeat (first | exact find_head | apply find_tail)); done) ?_ | refine Mem.consR hh (by assumption) (by simp) ?_ | fail)); done)
            refine d_step (fun _ => hM) ?_
            refine d_one (i := 20) (by kernel_rfl) rfl ?_
            try clear hM
            refine id (w_store hl hh trivial one48 rfl rfl (by repeat (first | exact find_head | apply find_tail)) (by first | (simp; done) | (simp; omega) | (simp [bdL]; done) | (rw [List.length_append, fl_len (bkc_len bu)]; simp; omega)) (by first | rfl | assumption | (apply Row.one; assumption)) (by first | (exact fl_set1 bu cs y x.e jj _ hcy) | (simp only [bdL, setL, List.getElem?_cons_zero, List.getElem?_cons_succ, Value.cells, List.take_zero, List.take_succ_cons, List.take_nil, List.drop_zero, List.drop_succ_cons, List.drop_nil, List.length_cons, List.length_nil, List.cons_append, List.nil_append, List.append_nil, Nat.zero_add, Nat.add_zero, Nat.reduceAdd, Nat.reduceBEq, Nat.reduceEqDiff, Nat.ble, BEq.rfl, Bool.and_true, Bool.and_self, cond_true, beq_self_eq_true]; rfl) | (simp only [setL, List.getElem?_cons_zero, List.getElem?_cons_succ, Value.cells, List.take_zero, List.take_succ_cons, List.take_nil, List.drop_zero, List.drop_succ_cons, List.drop_nil, List.length_cons, List.length_nil, List.cons_append, List.nil_append, List.append_nil, Nat.zero_add, Nat.add_zero, Nat.reduceAdd, Nat.reduceBEq, Nat.reduceEqDiff, Nat.ble, BEq.rfl, Bool.and_true, Bool.and_self, cond_true, beq_self_eq_true]; rfl) | (simp only [setL, List.getElem?_cons_zero, List.getElem?_cons_succ, Value.cells, List.take_zero, List.take_succ_cons, List.take_nil, List.drop_zero, List.drop_succ_cons, List.drop_nil, List.length_cons, List.length_nil, List.cons_append, List.nil_append, List.append_nil, Nat.zero_add, Nat.add_zero, Nat.reduceAdd, Nat.reduceBEq, Nat.reduceEqDiff, Nat.ble, BEq.rfl, Bool.and_true, Bool.and_self, cond_true, beq_self_eq_true]; rfl)) ?_)
            clear hh w; intro w hh
            refine d_step (fun h => absurd h (by decide)) ?_
            refine d_done (by kernel_rfl) ?_
            try clear hM
            exact ⟨rfl, k7, bb, cc, jj, xs, ⟨hxs, hjl, hcc⟩, hl.addE (t := 0) (hl.addE (t := 7) (hl.nil) rfl (by first | rfl)) rfl (by first | rfl), hh.keep (by repeat (first | exact keeps_nil | apply keeps_cons (by repeat (first | exact find_head | apply find_tail)) (by first  | rfl) | exact keeps_self | exact keeps_left | exact keeps_right | exact keeps_swap | apply keeps_mv))⟩
          ·
            try clear hM
            refine id (w_alloc hl hh rfl trivial zero48 rfl ?_)
            clear hl hh a w; intro k7 a w hl hh
            have hM : Mem [(sb, C (bdL bu bn (.slice p os.length c)) 85)] w := (by (repeat (first | exact Mem.nil | refine Mem.cons hh.mem (by (repeat (first | exact find_head | apply find_tail)); done) ?_ | refine Mem.consR hh (by assumption) (by simp) ?_ | fail)); done)
            refine d_step (fun _ => hM) ?_
            refine d_one (i := 18) (by kernel_rfl) rfl ?_
            try clear hM
            refine id (w_append (news := [.int .u32 ((bu + addLo bu q) % 4294967296), .int .u32 ((bu + addHi bu bn q) % 4294967296)]) hl hh rfl trivial app48 rfl rfl rfl hR3 (by repeat (first | exact keeps_nil | apply keeps_cons (by repeat (first | exact find_head | apply find_tail)) (by first  | rfl) | exact keeps_self | exact keeps_left | exact keeps_right | exact keeps_swap | apply keeps_mv)) (hh.mem _ _ (Find.mem (by repeat (first | exact find_head | apply find_tail)))) rfl rfl rfl (by omega) (by omega) (by omega) (by decide) ?_)
            clear hl hh a w; intro rv2 E2 a w hR2 hl hh
            have hh3 := hh.comm; clear hh; have hh := hh3; clear hh3
            simp only [List.cons_append, List.nil_append] at hh
            have hR4 : Row rv2 (os ++ [addX bu bn q]).length (fl (bkc bu) (os ++ [addX bu bn q])) 2 73 E2 := by rw [List.length_append, fl_append, hX]; exact hR2
            obtain ⟨xs, hxs⟩ : ∃ z, z = os ++ [addX bu bn q] := ⟨_, rfl⟩
            rw [← hxs] at hR4
            obtain ⟨bb, cc, jj, hv4, hjl, hcc, hE4⟩ := row_blk3 hR4 (by rw [hxs]; simp)
            subst hv4
            subst hE4
            first | replace hh := has_rot (A := [_, _, _, _]) hh | replace hh := has_rot (A := [_, _, _]) hh
            simp only [List.cons_append, List.nil_append] at hh
            have hM : Mem [(sb, C (bdL bu bn (.slice p os.length c)) 85)] w := (by (repeat (first | exact Mem.nil | refine Mem.cons hh.mem (by (repeat (first | exact find_head | apply find_tail)); done) ?_ | refine Mem.consR hh (by assumption) (by simp) ?_ | fail)); done)
            refine d_step (fun _ => hM) ?_
            refine d_one (i := 20) (by kernel_rfl) rfl ?_
            try clear hM
            refine id (w_store hl hh trivial one48 rfl rfl (by repeat (first | exact find_head | apply find_tail)) (by first | (simp; done) | (simp; omega) | (simp [bdL]; done) | (rw [List.length_append, fl_len (bkc_len bu)]; simp; omega)) (by first | rfl | assumption | (apply Row.one; assumption)) (by first | (exact fl_set1 bu cs y x.e jj _ hcy) | (simp only [bdL, setL, List.getElem?_cons_zero, List.getElem?_cons_succ, Value.cells, List.take_zero, List.take_succ_cons, List.take_nil, List.drop_zero, List.drop_succ_cons, List.drop_nil, List.length_cons, List.length_nil, List.cons_append, List.nil_append, List.append_nil, Nat.zero_add, Nat.add_zero, Nat.reduceAdd, Nat.reduceBEq, Nat.reduceEqDiff, Nat.ble, BEq.rfl, Bool.and_true, Bool.and_self, cond_true, beq_self_eq_true]; rfl) | (simp only [setL, List.getElem?_cons_zero, List.getElem?_cons_succ, Value.cells, List.take_zero, List.take_succ_cons, List.take_nil, List.drop_zero, List.drop_succ_cons, List.drop_nil, List.length_cons, List.length_nil, List.cons_append, List.nil_append, List.append_nil, Nat.zero_add, Nat.add_zero, Nat.reduceAdd, Nat.reduceBEq, Nat.reduceEqDiff, Nat.ble, BEq.rfl, Bool.and_true, Bool.and_self, cond_true, beq_self_eq_true]; rfl) | (simp only [setL, List.getElem?_cons_zero, List.getElem?_cons_succ, Value.cells, List.take_zero, List.take_succ_cons, List.take_nil, List.drop_zero, List.drop_succ_cons, List.drop_nil, List.length_cons, List.length_nil, List.cons_append, List.nil_append, List.append_nil, Nat.zero_add, Nat.add_zero, Nat.reduceAdd, Nat.reduceBEq, Nat.reduceEqDiff, Nat.ble, BEq.rfl, Bool.and_true, Bool.and_self, cond_true, beq_self_eq_true]; rfl)) ?_)
            clear hh w; intro w hh
            refine d_step (fun h => absurd h (by decide)) ?_
            refine d_done (by kernel_rfl) ?_
            try clear hM
            exact ⟨rfl, k7, bb, cc, jj, xs, ⟨hxs, hjl, hcc⟩, hl.addE (t := 0) (hl.addE (t := 7) (hl.nil) rfl (by first | rfl)) rfl (by first | rfl), hh.keep (by repeat (first | exact keeps_nil | apply keeps_cons (by repeat (first | exact find_head | apply find_tail)) (by first  | rfl) | exact keeps_self | exact keeps_left | exact keeps_right | exact keeps_swap | apply keeps_mv))⟩
        ·
          try clear hM
          refine id (w_alloc hl hh rfl trivial zero48 rfl ?_)
          clear hl hh a w; intro k7 a w hl hh
          have hM : Mem [(sb, C (bdL bu bn (.slice p os.length c)) 85)] w := (by (repeat (first | exact Mem.nil | refine Mem.cons hh.mem (by (repeat (first | exact find_head | apply find_tail)); done) ?_ | refine Mem.consR hh (by assumption) (by simp) ?_ | fail)); done)
          refine d_step (fun _ => hM) ?_
          refine d_one (i := 1) (by kernel_rfl) rfl ?_
          try clear hM
          refine id (w_call hl hh rfl trivial rfl cal56 rfl (blocksO_spec sb bu bn os hlen p c E hR) (by repeat (first | exact keeps_nil | apply keeps_cons (by repeat (first | exact find_head | apply find_tail)) (by first  | rfl) | exact keeps_self | exact keeps_left | exact keeps_right | exact keeps_swap | apply keeps_mv)) ⟨(hh.mem _ _ (Find.mem (by repeat (first | exact find_head | apply find_tail)))), fun b o m => hh.mem b o (by simp [m])⟩ ?_)
          clear hl hh a w; intro vc Fc a w hR hl hh
          try simp only [List.cons_append, List.nil_append] at hh
          have hR3 := hR
          clear hR
          replace hh := hh.comm
          simp only [List.cons_append, List.nil_append] at hh
          have hM : Mem [(sb, C (bdL bu bn (.slice p os.length c)) 85)] w := (by (repeat (first | exact Mem.nil | refine Mem.cons hh.mem (by (repeat (first | exact find_head | apply find_tail)); done) ?_ | refine Mem.consR hh (by assumption) (by simp) ?_ | fail)); done)
          refine d_step (fun _ => hM) ?_
          refine d_one (i := 18) (by kernel_rfl) rfl ?_
          try clear hM
          refine id (w_append (news := [.int .u32 ((bu + addLo bu q) % 4294967296), .int .u32 ((bu + addHi bu bn q) % 4294967296)]) hl hh rfl trivial app48 rfl rfl rfl hR3 (by repeat (first | exact keeps_nil | apply keeps_cons (by repeat (first | exact find_head | apply find_tail)) (by first  | rfl) | exact keeps_self | exact keeps_left | exact keeps_right | exact keeps_swap | apply keeps_mv)) (hh.mem _ _ (Find.mem (by repeat (first | exact find_head | apply find_tail)))) rfl rfl rfl (by omega) (by omega) (by omega) (by decide) ?_)
          clear hl hh a w; intro rv2 E2 a w hR2 hl hh
          have hh3 := hh.comm; clear hh; have hh := hh3; clear hh3
          simp only [List.cons_append, List.nil_append] at hh
          have hR4 : Row rv2 (os ++ [addX bu bn q]).length (fl (bkc bu) (os ++ [addX bu bn q])) 2 73 E2 := by rw [List.length_append, fl_append, hX]; exact hR2
          obtain ⟨xs, hxs⟩ : ∃ z, z = os ++ [addX bu bn q] := ⟨_, rfl⟩
          rw [← hxs] at hR4
          obtain ⟨bb, cc, jj, hv4, hjl, hcc, hE4⟩ := row_blk3 hR4 (by rw [hxs]; simp)
          subst hv4
          subst hE4
          first | replace hh := has_rot (A := [_, _, _, _]) hh | replace hh := has_rot (A := [_, _, _]) hh
          simp only [List.cons_append, List.nil_append] at hh
          have hM : Mem [(sb, C (bdL bu bn (.slice p os.length c)) 85)] w := (by (repeat (first | exact Mem.nil | refine Mem.cons hh.mem (by (repeat (first | exact find_head | apply find_tail)); done) ?_ | refine Mem.consR hh (by assumption) (by simp) ?_ | fail)); done)
          refine d_step (fun _ => hM) ?_
          refine d_one (i := 20) (by kernel_rfl) rfl ?_
          try clear hM
          refine id (w_store hl hh trivial one48 rfl rfl (by repeat (first | exact find_head | apply find_tail)) (by first | (simp; done) | (simp; omega) | (simp [bdL]; done) | (rw [List.length_append, fl_len (bkc_len bu)]; simp; omega)) (by first | rfl | assumption | (apply Row.one; assumption)) (by first | (exact fl_set1 bu cs y x.e jj _ hcy) | (simp only [bdL, setL, List.getElem?_cons_zero, List.getElem?_cons_succ, Value.cells, List.take_zero, List.take_succ_cons, List.take_nil, List.drop_zero, List.drop_succ_cons, List.drop_nil, List.length_cons, List.length_nil, List.cons_append, List.nil_append, List.append_nil, Nat.zero_add, Nat.add_zero, Nat.reduceAdd, Nat.reduceBEq, Nat.reduceEqDiff, Nat.ble, BEq.rfl, Bool.and_true, Bool.and_self, cond_true, beq_self_eq_true]; rfl) | (simp only [setL, List.getElem?_cons_zero, List.getElem?_cons_succ, Value.cells, List.take_zero, List.take_succ_cons, List.take_nil, List.drop_zero, List.drop_succ_cons, List.drop_nil, List.length_cons, List.length_nil, List.cons_append, List.nil_append, List.append_nil, Nat.zero_add, Nat.add_zero, Nat.reduceAdd, Nat.reduceBEq, Nat.reduceEqDiff, Nat.ble, BEq.rfl, Bool.and_true, Bool.and_self, cond_true, beq_self_eq_true]; rfl) | (simp only [setL, List.getElem?_cons_zero, List.getElem?_cons_succ, Value.cells, List.take_zero, List.take_succ_cons, List.take_nil, List.drop_zero, List.drop_succ_cons, List.drop_nil, List.length_cons, List.length_nil, List.cons_append, List.nil_append, List.append_nil, Nat.zero_add, Nat.add_zero, Nat.reduceAdd, Nat.reduceBEq, Nat.reduceEqDiff, Nat.ble, BEq.rfl, Bool.and_true, Bool.and_self, cond_true, beq_self_eq_true]; rfl)) ?_)
          clear hh w; intro w hh
          refine d_step (fun h => absurd h (by decide)) ?_
          refine d_done (by kernel_rfl) ?_
          try clear hM
          exact ⟨rfl, k7, bb, cc, jj, xs, ⟨hxs, hjl, hcc⟩, hl.addE (t := 0) (hl.addE (t := 7) (hl.nil) rfl (by first | rfl)) rfl (by first | rfl), hh.keep (by repeat (first | exact keeps_nil | apply keeps_cons (by repeat (first | exact find_head | apply find_tail)) (by first  | rfl) | exact keeps_self | exact keeps_left | exact keeps_right | exact keeps_swap | apply keeps_mv))⟩
      ·
        try clear hM
        refine id (w_alloc hl hh rfl trivial zero48 rfl ?_)
        clear hl hh a w; intro k7 a w hl hh
        have hM : Mem [(sb, C (bdL bu bn (.slice p os.length c)) 85)] w := (by (repeat (first | exact Mem.nil | refine Mem.cons hh.mem (by (repeat (first | exact find_head | apply find_tail)); done) ?_ | refine Mem.consR hh (by assumption) (by simp) ?_ | fail)); done)
        refine d_step (fun _ => hM) ?_
        refine d_two (i := 1) (j := 17) (by kernel_rfl) rfl rfl ?_ ?_
        ·
          try clear hM
          refine id (w_call hl hh rfl trivial rfl cal56 rfl (blocksO_spec sb bu bn os hlen p c E hR) (by repeat (first | exact keeps_nil | apply keeps_cons (by repeat (first | exact find_head | apply find_tail)) (by first  | rfl) | exact keeps_self | exact keeps_left | exact keeps_right | exact keeps_swap | apply keeps_mv)) ⟨(hh.mem _ _ (Find.mem (by repeat (first | exact find_head | apply find_tail)))), fun b o m => hh.mem b o (by simp [m])⟩ ?_)
          clear hl hh a w; intro vc Fc a w hR hl hh
          try simp only [List.cons_append, List.nil_append] at hh
          have hR3 := hR
          clear hR
          replace hh := hh.comm
          simp only [List.cons_append, List.nil_append] at hh
          have hM : Mem [(sb, C (bdL bu bn (.slice p os.length c)) 85)] w := (by (repeat (first | exact Mem.nil | refine Mem.cons hh.mem (by (repeat (first | exact find_head | apply find_tail)); done) ?_ | refine Mem.consR hh (by assumption) (by simp) ?_ | fail)); done)
          refine d_step (fun _ => hM) ?_
          refine d_one (i := 17) (by kernel_rfl) rfl ?_
          try clear hM
          refine id (w_buildSlice hl hh rfl trivial app48 zero73 rfl rfl rfl rfl rfl (by simp only [fillL, arrPl, List.range_succ, List.range_zero, List.map_cons, List.map_nil, List.map_append, List.nil_append, List.replicate_succ, List.replicate_zero, List.flatten_cons, List.flatten_nil, Nat.zero_mul, Nat.mul_one, Nat.one_mul, Nat.reduceMul, setL, List.getElem?_cons_zero, List.getElem?_cons_succ, Value.cells, List.take_zero, List.take_succ_cons, List.take_nil, List.drop_zero, List.drop_succ_cons, List.drop_nil, List.length_cons, List.length_nil, List.cons_append, List.nil_append, List.append_nil, Nat.zero_add, Nat.add_zero, Nat.reduceAdd, Nat.reduceBEq, Nat.reduceEqDiff, Nat.ble, BEq.rfl, Bool.and_true, Bool.and_self, cond_true, beq_self_eq_true]; rfl) ?_)
          clear hl hh a w; intro k65 a w hl hh
          have hM : Mem [(sb, C (bdL bu bn (.slice p os.length c)) 85)] w := (by (repeat (first | exact Mem.nil | refine Mem.cons hh.mem (by (repeat (first | exact find_head | apply find_tail)); done) ?_ | refine Mem.consR hh (by assumption) (by simp) ?_ | fail)); done)
          refine d_step (fun _ => hM) ?_
          refine d_one (i := 18) (by kernel_rfl) rfl ?_
          try clear hM
          refine id (w_append (news := [.int .u32 ((bu + addLo bu q) % 4294967296), .int .u32 ((bu + addHi bu bn q) % 4294967296)]) hl hh rfl trivial app48 rfl rfl rfl hR3 (by repeat (first | exact keeps_nil | apply keeps_cons (by repeat (first | exact find_head | apply find_tail)) (by first  | rfl) | exact keeps_self | exact keeps_left | exact keeps_right | exact keeps_swap | apply keeps_mv)) (hh.mem _ _ (Find.mem (by repeat (first | exact find_head | apply find_tail)))) rfl rfl rfl (by omega) (by omega) (by omega) (by decide) ?_)
          clear hl hh a w; intro rv2 E2 a w hR2 hl hh
          have hh3 := hh.comm; clear hh; have hh := hh3; clear hh3
          simp only [List.cons_append, List.nil_append] at hh
          have hR4 : Row rv2 (os ++ [addX bu bn q]).length (fl (bkc bu) (os ++ [addX bu bn q])) 2 73 E2 := by rw [List.length_append, fl_append, hX]; exact hR2
          obtain ⟨xs, hxs⟩ : ∃ z, z = os ++ [addX bu bn q] := ⟨_, rfl⟩
          rw [← hxs] at hR4
          obtain ⟨bb, cc, jj, hv4, hjl, hcc, hE4⟩ := row_blk3 hR4 (by rw [hxs]; simp)
          subst hv4
          subst hE4
          first | replace hh := has_rot (A := [_, _, _, _]) hh | replace hh := has_rot (A := [_, _, _]) hh
          simp only [List.cons_append, List.nil_append] at hh
          have hM : Mem [(sb, C (bdL bu bn (.slice p os.length c)) 85)] w := (by (repeat (first | exact Mem.nil | refine Mem.cons hh.mem (by (repeat (first | exact find_head | apply find_tail)); done) ?_ | refine Mem.consR hh (by assumption) (by simp) ?_ | fail)); done)
          refine d_step (fun _ => hM) ?_
          refine d_one (i := 20) (by kernel_rfl) rfl ?_
          try clear hM
          refine id (w_store hl hh trivial one48 rfl rfl (by repeat (first | exact find_head | apply find_tail)) (by first | (simp; done) | (simp; omega) | (simp [bdL]; done) | (rw [List.length_append, fl_len (bkc_len bu)]; simp; omega)) (by first | rfl | assumption | (apply Row.one; assumption)) (by first | (exact fl_set1 bu cs y x.e jj _ hcy) | (simp only [bdL, setL, List.getElem?_cons_zero, List.getElem?_cons_succ, Value.cells, List.take_zero, List.take_succ_cons, List.take_nil, List.drop_zero, List.drop_succ_cons, List.drop_nil, List.length_cons, List.length_nil, List.cons_append, List.nil_append, List.append_nil, Nat.zero_add, Nat.add_zero, Nat.reduceAdd, Nat.reduceBEq, Nat.reduceEqDiff, Nat.ble, BEq.rfl, Bool.and_true, Bool.and_self, cond_true, beq_self_eq_true]; rfl) | (simp only [setL, List.getElem?_cons_zero, List.getElem?_cons_succ, Value.cells, List.take_zero, List.take_succ_cons, List.take_nil, List.drop_zero, List.drop_succ_cons, List.drop_nil, List.length_cons, List.length_nil, List.cons_append, List.nil_append, List.append_nil, Nat.zero_add, Nat.add_zero, Nat.reduceAdd, Nat.reduceBEq, Nat.reduceEqDiff, Nat.ble, BEq.rfl, Bool.and_true, Bool.and_self, cond_true, beq_self_eq_true]; rfl) | (simp only [setL, List.getElem?_cons_zero, List.getElem?_cons_succ, Value.cells, List.take_zero, List.take_succ_cons, List.take_nil, List.drop_zero, List.drop_succ_cons, List.drop_nil, List.length_cons, List.length_nil, List.cons_append, List.nil_append, List.append_nil, Nat.zero_add, Nat.add_zero, Nat.reduceAdd, Nat.reduceBEq, Nat.reduceEqDiff, Nat.ble, BEq.rfl, Bool.and_true, Bool.and_self, cond_true, beq_self_eq_true]; rfl)) ?_)
          clear hh w; intro w hh
          refine d_step (fun h => absurd h (by decide)) ?_
          refine d_done (by kernel_rfl) ?_
          try clear hM
          exact ⟨rfl, k7, bb, cc, jj, xs, ⟨hxs, hjl, hcc⟩, hl.addE (t := 0) (hl.addE (t := 7) (hl.nil) rfl (by first | rfl)) rfl (by first | rfl), hh.keep (by repeat (first | exact keeps_nil | apply keeps_cons (by repeat (first | exact find_head | apply find_tail)) (by first  | rfl) | exact keeps_self | exact keeps_left | exact keeps_right | exact keeps_swap | apply keeps_mv))⟩
        ·
          try clear hM
          refine id (w_buildSlice hl hh rfl trivial app48 zero73 rfl rfl rfl rfl rfl (by simp only [fillL, arrPl, List.range_succ, List.range_zero, List.map_cons, List.map_nil, List.map_append, List.nil_append, List.replicate_succ, List.replicate_zero, List.flatten_cons, List.flatten_nil, Nat.zero_mul, Nat.mul_one, Nat.one_mul, Nat.reduceMul, setL, List.getElem?_cons_zero, List.getElem?_cons_succ, Value.cells, List.take_zero, List.take_succ_cons, List.take_nil, List.drop_zero, List.drop_succ_cons, List.drop_nil, List.length_cons, List.length_nil, List.cons_append, List.nil_append, List.append_nil, Nat.zero_add, Nat.add_zero, Nat.reduceAdd, Nat.reduceBEq, Nat.reduceEqDiff, Nat.ble, BEq.rfl, Bool.and_true, Bool.and_self, cond_true, beq_self_eq_true]; rfl) ?_)
          clear hl hh a w; intro k65 a w hl hh
          have hM : Mem [(sb, C (bdL bu bn (.slice p os.length c)) 85)] w := (by (repeat (first | exact Mem.nil | refine Mem.cons hh.mem (by (repeat (first | exact find_head | apply find_tail)); done) ?_ | refine Mem.consR hh (by assumption) (by simp) ?_ | fail)); done)
          refine d_step (fun _ => hM) ?_
          refine d_one (i := 1) (by kernel_rfl) rfl ?_
          try clear hM
          refine id (w_call hl hh rfl trivial rfl cal56 rfl (blocksO_spec sb bu bn os hlen p c E hR) (by repeat (first | exact keeps_nil | apply keeps_cons (by repeat (first | exact find_head | apply find_tail)) (by first  | rfl) | exact keeps_self | exact keeps_left | exact keeps_right | exact keeps_swap | apply keeps_mv)) ⟨(hh.mem _ _ (Find.mem (by repeat (first | exact find_head | apply find_tail)))), fun b o m => hh.mem b o (by simp [m])⟩ ?_)
          clear hl hh a w; intro vc Fc a w hR hl hh
          try simp only [List.cons_append, List.nil_append] at hh
          have hR3 := hR
          clear hR
          replace hh := hh.comm
          simp only [List.cons_append, List.nil_append] at hh
          have hM : Mem [(sb, C (bdL bu bn (.slice p os.length c)) 85)] w := (by (repeat (first | exact Mem.nil | refine Mem.cons hh.mem (by (repeat (first | exact find_head | apply find_tail)); done) ?_ | refine Mem.consR hh (by assumption) (by simp) ?_ | fail)); done)
          refine d_step (fun _ => hM) ?_
          refine d_one (i := 18) (by kernel_rfl) rfl ?_
          try clear hM
          refine id (w_append (news := [.int .u32 ((bu + addLo bu q) % 4294967296), .int .u32 ((bu + addHi bu bn q) % 4294967296)]) hl hh rfl trivial app48 rfl rfl rfl hR3 (by repeat (first | exact keeps_nil | apply keeps_cons (by repeat (first | exact find_head | apply find_tail)) (by first  | rfl) | exact keeps_self | exact keeps_left | exact keeps_right | exact keeps_swap | apply keeps_mv)) (hh.mem _ _ (Find.mem (by repeat (first | exact find_head | apply find_tail)))) rfl rfl rfl (by omega) (by omega) (by omega) (by decide) ?_)
          clear hl hh a w; intro rv2 E2 a w hR2 hl hh
          have hh3 := hh.comm; clear hh; have hh := hh3; clear hh3
          simp only [List.cons_append, List.nil_append] at hh
          have hR4 : Row rv2 (os ++ [addX bu bn q]).length (fl (bkc bu) (os ++ [addX bu bn q])) 2 73 E2 := by rw [List.length_append, fl_append, hX]; exact hR2
          obtain ⟨xs, hxs⟩ : ∃ z, z = os ++ [addX bu bn q] := ⟨_, rfl⟩
          rw [← hxs] at hR4
          obtain ⟨bb, cc, jj, hv4, hjl, hcc, hE4⟩ := row_blk3 hR4 (by rw [hxs]; simp)
          subst hv4
          subst hE4
          first | replace hh := has_rot (A := [_, _, _, _]) hh | replace hh := has_rot (A := [_, _, _]) hh
          simp only [List.cons_append, List.nil_append] at hh
          have hM : Mem [(sb, C (bdL bu bn (.slice p os.length c)) 85)] w := (by (repeat (first | exact Mem.nil | refine Mem.cons hh.mem (by (repeat (first | exact find_head | apply find_tail)); done) ?_ | refine Mem.consR hh (by assumption) (by simp) ?_ | fail)); done)
          refine d_step (fun _ => hM) ?_
          refine d_one (i := 20) (by kernel_rfl) rfl ?_
          try clear hM
          refine id (w_store hl hh trivial one48 rfl rfl (by repeat (first | exact find_head | apply find_tail)) (by first | (simp; done) | (simp; omega) | (simp [bdL]; done) | (rw [List.length_append, fl_len (bkc_len bu)]; simp; omega)) (by first | rfl | assumption | (apply Row.one; assumption)) (by first | (exact fl_set1 bu cs y x.e jj _ hcy) | (simp only [bdL, setL, List.getElem?_cons_zero, List.getElem?_cons_succ, Value.cells, List.take_zero, List.take_succ_cons, List.take_nil, List.drop_zero, List.drop_succ_cons, List.drop_nil, List.length_cons, List.length_nil, List.cons_append, List.nil_append, List.append_nil, Nat.zero_add, Nat.add_zero, Nat.reduceAdd, Nat.reduceBEq, Nat.reduceEqDiff, Nat.ble, BEq.rfl, Bool.and_true, Bool.and_self, cond_true, beq_self_eq_true]; rfl) | (simp only [setL, List.getElem?_cons_zero, List.getElem?_cons_succ, Value.cells, List.take_zero, List.take_succ_cons, List.take_nil, List.drop_zero, List.drop_succ_cons, List.drop_nil, List.length_cons, List.length_nil, List.cons_append, List.nil_append, List.append_nil, Nat.zero_add, Nat.add_zero, Nat.reduceAdd, Nat.reduceBEq, Nat.reduceEqDiff, Nat.ble, BEq.rfl, Bool.and_true, Bool.and_self, cond_true, beq_self_eq_true]; rfl) | (simp only [setL, List.getElem?_cons_zero, List.getElem?_cons_succ, Value.cells, List.take_zero, List.take_succ_cons, List.take_nil, List.drop_zero, List.drop_succ_cons, List.drop_nil, List.length_cons, List.length_nil, List.cons_append, List.nil_append, List.append_nil, Nat.zero_add, Nat.add_zero, Nat.reduceAdd, Nat.reduceBEq, Nat.reduceEqDiff, Nat.ble, BEq.rfl, Bool.and_true, Bool.and_self, cond_true, beq_self_eq_true]; rfl)) ?_)
          clear hh w; intro w hh
          refine d_step (fun h => absurd h (by decide)) ?_
          refine d_done (by kernel_rfl) ?_
          try clear hM
          exact ⟨rfl, k7, bb, cc, jj, xs, ⟨hxs, hjl, hcc⟩, hl.addE (t := 0) (hl.addE (t := 7) (hl.nil) rfl (by first | rfl)) rfl (by first | rfl), hh.keep (by repeat (first | exact keeps_nil | apply keeps_cons (by repeat (first | exact find_head | apply find_tail)) (by first  | rfl) | exact keeps_self | exact keeps_left | exact keeps_right | exact keeps_swap | apply keeps_mv))⟩
    ·
      clear hl hh a w; intro a w hI
      obtain ⟨k7, bb, cc, jj, xs, ⟨hxs, hjl, hcc⟩, hl, hh⟩ := hI
      have hl2 := hl.add (t := 0) (hl.add (t := 7) (hl.nil) rfl) rfl; clear hl; have hl := hl2; clear hl2
      refine then_normal ?_
      refine c_seq ?_
      refine c_region ?_
      refine wl (w_load hl hh rfl trivial one48 rfl (by repeat (first | exact find_head | apply find_tail)) (by first | exact hye | rfl) ?_)
      clear hl a; intro a hl
      refine wl (wl_val hl rfl trivial (r_makeInterface hl rfl conc48) ?_)
      clear hl a; intro a hl
      refine wl (wl_val hl rfl trivial (r_makeFunc hl rfl) ?_)
      clear hl a; intro a hl
      refine wl (w_call hl hh rfl trivial rfl cal57 rfl (sort_spec bu xs (by rw [hxs]; simp) (by rw [hxs]; simp; omega) bb cc k7 jj 48 73) (by repeat (first | exact keeps_nil | apply keeps_cons (by repeat (first | exact find_head | apply find_tail)) (by first  | rfl) | exact keeps_self | exact keeps_left | exact keeps_right | exact keeps_swap | apply keeps_mv)) trivial ?_)
      clear hl hh a w; intro vc Fc a w hR hl hh
      obtain ⟨rfl, l, hlp, hls, rfl⟩ := hR
      try simp only [List.cons_append, List.nil_append] at hh
      have hll := hlp.length_eq
      have hxl : xs.length = os.length + 1 := by rw [hxs]; simp
      have hbin : ∀ z, z ∈ l → BIn f z := fun z hz => by
        have h1 := hlp.mem_iff.1 hz
        rw [hxs] at h1
        rcases List.mem_append.1 h1 with h1 | h1
        · exact hos.all z h1
        · rw [List.mem_singleton] at h1; subst h1; exact addX_in hf hlo
      have hminv : ∀ n, BInv f (mergeB (l.take n)) := fun n => (mergeB_inv (l.take n) [] trivial (fun z hz => hbin z (List.mem_of_mem_take hz)) (hls.sublist (List.take_sublist _ _)) (fun _ _ _ h => by cases h)).1
      refine w_nil ?_
      have hl2 := hl.add (t := 0) (hl.add (t := 7) (hl.nil) rfl) rfl; clear hl; have hl := hl2; clear hl2
      refine then_normal ?_
      refine c_seq ?_
      refine c_region ?_
      refine wl (w_load hl hh rfl trivial one48 rfl (by repeat (first | exact find_head | apply find_tail)) (by first | exact hye | rfl) ?_)
      clear hl a; intro a hl
      refine wl (wl_val hl rfl trivial (r_sliceS01 (by intro q e; first | (cases e; rfl) | (cases e; done) | (cases e; rfl)) hl rfl rfl slc48 (by omega) (by first | (simp only [Int.reduceToNat]; rfl) | exact toNat_add1 _ | exact toNat_add2 _ _ | exact toNat_emod _ _ | exact Int.toNat_natCast _ | rfl)) ?_)
      clear hl a; intro a hl
      refine wl (wl_val hl rfl trivial (r_assign hl rfl) ?_)
      clear hl a; intro a hl
      refine w_nil ?_
      have hl2 := hl.add (t := 0) (hl.add (t := 7) (hl.add (t := 8) (hl.nil) rfl) rfl) rfl; clear hl; have hl := hl2; clear hl2
      refine then_normal ?_
      refine c_seq ?_
      refine c_seq ?_
      refine c_region ?_
      refine wl (w_load hl hh rfl trivial one48 rfl (by repeat (first | exact find_head | apply find_tail)) (by first | exact hye | rfl) ?_)
      clear hl a; intro a hl
      refine wl (wl_val hl rfl trivial (r_sliceS10y hl rfl rfl slc48 (by omega) (by first | (simp only [Int.reduceToNat]; rfl) | exact toNat_add1 _ | exact toNat_add2 _ _ | exact toNat_emod _ _ | exact Int.toNat_natCast _ | rfl)) ?_)
      clear hl a; intro a hl
      refine wl (wl_val hl rfl trivial (r_lenS hl rfl slc48) ?_)
      clear hl a; intro a hl
      refine wl (wl_val hl rfl trivial (r_move hl rfl) ?_)
      clear hl a; intro a hl
      refine w_nil ?_
      have hl2 := hl.add (t := 0) (hl.add (t := 8) (hl.add (t := 74) (hl.add (t := 75) (hl.add (t := 76) (hl.nil) rfl) rfl) rfl) rfl) rfl; clear hl; have hl := hl2; clear hl2
      refine then_normal ?_
      refine wp_block ?_
      obtain ⟨KS0, hKS0, hk⟩ := (hl.add (t := 0) (hl.add (t := 74) (hl.add (t := 75) (hl.nil) rfl) rfl) rfl).name
      obtain ⟨HS0, hHS0, hh2⟩ := hh.name (keeps_cons (b := bb) (o' := C (fl (bkc bu) l ++ jj) 73) (by repeat (first | exact find_head | apply find_tail)) (by first | rfl) (keeps_nil))
      refine c_loop (α := MS) (fun s => l.length - s.i) (fun s a w => (MI l s.i s.ms s.cs) ∧ Sl 126 ([(76, .int .i64 (s.i : Int)), (8, .slice (some ⟨bb, 0, none⟩) s.ms.length cc)] ++ KS0) a ∧ Has _ w0 ([(bb, C (fl (bkc bu) s.cs ++ jj) 73)] ++ HS0) w) ⟨0, mergeB (l.take 1), l⟩ ⟨(MI.start (by omega)).1, hl.addE (t := 76) (hl.addE (t := 8) (hk) rfl (by first | exact congrArg (fun z => Value.slice (some ⟨bb, 0, none⟩) z cc) (MI.start (l := l) (by omega)).2.symm | rfl)) rfl (by first | exact congrArg (fun z => Value.slice (some ⟨bb, 0, none⟩) z cc) (MI.start (l := l) (by omega)).2.symm | rfl), hh2⟩ ?_
      clear hk hh2 hl hh a w
      intro s a w hI
      obtain ⟨hMI, hl, hh⟩ := hI
      subst hKS0; subst hHS0
      simp only [List.cons_append, List.nil_append, List.append_nil] at hl hh
      obtain ⟨i, ms, cs⟩ := s
      simp only at hMI hl hh
      refine c_seq ?_
      refine c_region ?_
      refine wl (wl_val hl rfl trivial (r_lss hl rfl rfl) ?_)
      clear hl a; intro a hl
      refine w_nil ?_
      have hl2 := hl.add (t := 0) (hl.add (t := 8) (hl.add (t := 74) (hl.add (t := 75) (hl.add (t := 76) (hl.add (t := 77) (hl.nil) rfl) rfl) rfl) rfl) rfl) rfl; clear hl; have hl := hl2; clear hl2
      refine then_normal ?_
      refine c_seq ?_
      refine c_cond hl rfl ?_ ?_
      · intro hc1
        try simp only [decide_eq_true_eq, decide_eq_false_iff_not, Bool.not_eq_true', Bool.not_eq_false', Bool.not_eq_true, Bool.not_eq_false, Bool.and_eq_true, Bool.or_eq_true, Bool.and_eq_false_iff, Bool.or_eq_false_iff, Bool.not_not, ne_eq, Int.not_lt, Int.not_le, Decidable.not_not, beq_iff_eq, bne_iff_ne] at hc1
        obtain ⟨x, hx⟩ : ∃ x, l[i + 1]? = some x := ⟨_, List.getElem?_eq_getElem (by omega)⟩
        have hcx := hMI.get hx
        have hrd := at_next bu hcx jj
        obtain ⟨y, hy, hcy⟩ := hMI.last
        have hye := cell_e bu hcy jj
        have hmle := hMI.le
        have hmne := List.length_pos_iff.2 hMI.ne
        have hcl := hMI.len
        have h1cc : 1 < cc := by omega
        rw [if_pos h1cc] at hl
        have hxb := hbin x (List.mem_of_getElem? hx)
        have hyb := (hminv (i + 1)).all y (by rw [← hMI.eq]; exact List.mem_of_getLast? hy)
        have hyh : y.e < 2147483648 := by have := hyb.2; omega
        have hxh : x.e < 2147483648 := by have := hxb.2; omega
        refine wp_skip ?_
        refine then_normal ?_
        refine c_seq ?_
        refine wp_block ?_
        refine c_seq ?_
        refine c_region ?_
        refine wl (wl_val hl rfl trivial (r_indexS hl rfl rfl slc48 (by omega) (by omega) (by first | (simp only [Int.reduceToNat]; rfl) | exact toNat_add1 _ | exact toNat_add2 _ _ | exact toNat_emod _ _ | exact Int.toNat_natCast _ | rfl)) ?_)
        clear hl a; intro a hl
        refine wl (w_loadA hl hh rfl trivial agg73 rfl (by repeat (first | exact find_head | apply find_tail)) (by first | exact hrd | (simp only [List.getElem?_cons_zero, List.getElem?_cons_succ, Value.cells, List.take_zero, List.take_succ_cons, List.take_nil, List.drop_zero, List.drop_succ_cons, List.drop_nil, List.length_cons, List.length_nil, List.cons_append, List.nil_append, List.append_nil, Nat.zero_add, Nat.add_zero, Nat.reduceAdd, Nat.reduceBEq, Nat.reduceEqDiff, Nat.ble, BEq.rfl, Bool.and_true, Bool.and_self, cond_true, beq_self_eq_true]; rfl)) (by first | rfl | (simp; done)) ?_)
        clear hl a; intro a hl
        refine wl (w_alloc hl hh rfl trivial zero73 rfl ?_)
        clear hl hh a w; intro k10 a w hl hh
        refine wl (w_storeA hl hh trivial agg73 rfl rfl (by repeat (first | exact find_head | apply find_tail)) (by first | rfl | (simp; done) | exact hrd) (by first | (simp; done) | (simp; omega) | (simp [bdL]; done) | (rw [List.length_append, fl_len (bkc_len bu)]; simp; omega)) (by first | rfl | (simp; done)) (by first | (exact fl_set1 bu cs y x.e jj _ hcy) | (simp only [bdL, setL, List.getElem?_cons_zero, List.getElem?_cons_succ, Value.cells, List.take_zero, List.take_succ_cons, List.take_nil, List.drop_zero, List.drop_succ_cons, List.drop_nil, List.length_cons, List.length_nil, List.cons_append, List.nil_append, List.append_nil, Nat.zero_add, Nat.add_zero, Nat.reduceAdd, Nat.reduceBEq, Nat.reduceEqDiff, Nat.ble, BEq.rfl, Bool.and_true, Bool.and_self, cond_true, beq_self_eq_true]; rfl) | (simp only [setL, List.getElem?_cons_zero, List.getElem?_cons_succ, Value.cells, List.take_zero, List.take_succ_cons, List.take_nil, List.drop_zero, List.drop_succ_cons, List.drop_nil, List.length_cons, List.length_nil, List.cons_append, List.nil_append, List.append_nil, Nat.zero_add, Nat.add_zero, Nat.reduceAdd, Nat.reduceBEq, Nat.reduceEqDiff, Nat.ble, BEq.rfl, Bool.and_true, Bool.and_self, cond_true, beq_self_eq_true]; rfl) | (simp only [setL, List.getElem?_cons_zero, List.getElem?_cons_succ, Value.cells, List.take_zero, List.take_succ_cons, List.take_nil, List.drop_zero, List.drop_succ_cons, List.drop_nil, List.length_cons, List.length_nil, List.cons_append, List.nil_append, List.append_nil, Nat.zero_add, Nat.add_zero, Nat.reduceAdd, Nat.reduceBEq, Nat.reduceEqDiff, Nat.ble, BEq.rfl, Bool.and_true, Bool.and_self, cond_true, beq_self_eq_true]; rfl)) ?_)
        clear hh w; intro w hh
        refine w_nil ?_
        have hl2 := hl.add (t := 0) (hl.add (t := 8) (hl.add (t := 10) (hl.add (t := 74) (hl.add (t := 75) (hl.add (t := 76) (hl.nil) rfl) rfl) rfl) rfl) rfl) rfl; clear hl; have hl := hl2; clear hl2
        refine then_normal ?_
        refine c_seq ?_
        refine c_region ?_
        refine wl (wl_val hl rfl trivial (r_move hl rfl) ?_)
        clear hl a; intro a hl
        refine wl (wl_val hl rfl trivial (r_move hl rfl) ?_)
        clear hl a; intro a hl
        refine wl (wl_val hl rfl trivial (r_lenS hl rfl slc48) ?_)
        clear hl a; intro a hl
        first | refine wl (wl_val hl rfl trivial (r_sub hl rfl rfl (by simp only [Fits]; omega)) ?_) | refine wl (wl_val hl rfl trivial (r_subW hl rfl rfl) ?_)
        clear hl a; intro a hl
        rw [show ((ms.length : Int) - 1) = ((ms.length - 1 : Nat) : Int) by omega] at hl
        refine wl (wl_val hl rfl trivial (r_indexS hl rfl rfl slc48 (by omega) (by omega) (by first | (simp only [Int.reduceToNat]; rfl) | exact toNat_add1 _ | exact toNat_add2 _ _ | exact toNat_emod _ _ | exact Int.toNat_natCast _ | rfl)) ?_)
        clear hl a; intro a hl
        refine wl (wl_val hl rfl trivial (r_assign hl rfl) ?_)
        clear hl a; intro a hl
        refine w_nil ?_
        have hl2 := hl.add (t := 0) (hl.add (t := 8) (hl.add (t := 10) (hl.add (t := 11) (hl.add (t := 74) (hl.add (t := 75) (hl.add (t := 76) (hl.nil) rfl) rfl) rfl) rfl) rfl) rfl) rfl; clear hl; have hl := hl2; clear hl2
        refine then_normal ?_
        refine c_seq ?_
        refine c_draw [(bb, C (fl (bkc bu) cs ++ jj) 73), (k10, C [.int .u32 ((bu + (x.s : Int)) % 4294967296), .int .u32 ((bu + (x.e : Int)) % 4294967296)] 73)] [6] mixed hh ?_
        clear hh w; intro w hh
        have hM : Mem [(bb, C (fl (bkc bu) cs ++ jj) 73), (k10, C [.int .u32 ((bu + (x.s : Int)) % 4294967296), .int .u32 ((bu + (x.e : Int)) % 4294967296)] 73)] w := (by (repeat (first | exact Mem.nil | refine Mem.cons hh.mem (by (repeat (first | exact find_head | apply find_tail)); done) ?_ | refine Mem.consR hh (by assumption) (by simp) ?_ | fail)); done)
        refine d_take (i := 0) hl rfl (by kernel_rfl) (by kernel_rfl) (by kernel_rfl) (by kernel_rfl) (by kernel_rfl) rfl trivial (fun _ _ _ h => h) hM (fun w hC => r_move hl rfl) rfl ?_
        clear hl a; intro a hl
        refine d_take (i := 1) hl rfl (by kernel_rfl) (by kernel_rfl) (by kernel_rfl) (by kernel_rfl) (by kernel_rfl) rfl trivial (fun _ _ _ h => h) hM (fun w hC => r_nilCheck hl rfl) rfl ?_
        clear hl a; intro a hl
        refine d_take (i := 2) hl rfl (by kernel_rfl) (by kernel_rfl) (by kernel_rfl) (by kernel_rfl) (by kernel_rfl) rfl trivial (fun _ _ _ h => h) hM (fun w hC => r_field hl rfl fld73_1) rfl ?_
        clear hl a; intro a hl
        refine d_take (i := 3) hl rfl (by kernel_rfl) (by kernel_rfl) (by kernel_rfl) (by kernel_rfl) (by kernel_rfl) rfl trivial (fun _ _ _ h => h) hM (fun w hC => r_loadC hl rfl one29 hC (by repeat (first | exact find_head | apply find_tail)) (by first | exact hye | rfl)) rfl ?_
        clear hl a; intro a hl
        refine d_take (i := 4) hl rfl (by kernel_rfl) (by kernel_rfl) (by kernel_rfl) (by kernel_rfl) (by kernel_rfl) rfl trivial (fun _ _ _ h => h) hM (fun w hC => r_field hl rfl fld73_0) rfl ?_
        clear hl a; intro a hl
        refine d_take (i := 5) hl rfl (by kernel_rfl) (by kernel_rfl) (by kernel_rfl) (by kernel_rfl) (by kernel_rfl) rfl trivial (fun _ _ _ h => h) hM (fun w hC => r_loadC hl rfl one29 hC (by repeat (first | exact find_head | apply find_tail)) (by first | exact hye | rfl)) rfl ?_
        clear hl a; intro a hl
        refine d_one (i := 6) (by kernel_rfl) rfl ?_
        try clear hM
        refine id (w_call hl hh rfl trivial rfl cal39 rfl (less_spec _ _) (by repeat (first | exact keeps_nil | apply keeps_cons (by repeat (first | exact find_head | apply find_tail)) (by first  | rfl) | exact keeps_self | exact keeps_left | exact keeps_right | exact keeps_swap | apply keeps_mv)) trivial ?_)
        clear hl hh a w; intro vc Fc a w hR hl hh
        obtain ⟨rfl, rfl⟩ := hR
        try simp only [List.cons_append, List.nil_append] at hh
        refine d_step (fun h => absurd h (by decide)) ?_
        refine d_done (by kernel_rfl) ?_
        try clear hM
        have hl2 := hl.add (t := 0) (hl.add (t := 8) (hl.add (t := 10) (hl.add (t := 11) (hl.add (t := 74) (hl.add (t := 75) (hl.add (t := 76) (hl.add (t := 91) (hl.nil) rfl) rfl) rfl) rfl) rfl) rfl) rfl) rfl; clear hl; have hl := hl2; clear hl2
        refine then_normal ?_
        refine c_cond hl rfl ?_ ?_
        · intro hc2
          try simp only [decide_eq_true_eq, decide_eq_false_iff_not, Bool.not_eq_true', Bool.not_eq_false', Bool.not_eq_true, Bool.not_eq_false, Bool.and_eq_true, Bool.or_eq_true, Bool.and_eq_false_iff, Bool.or_eq_false_iff, Bool.not_not, ne_eq, Int.not_lt, Int.not_le, Decidable.not_not, beq_iff_eq, bne_iff_ne] at hc2
          rw [less_b hyh x.h] at hc2
          simp only [decide_eq_true_eq] at hc2
          obtain ⟨ms9, hms9⟩ : ∃ z, z = mstep ms x := ⟨_, rfl⟩
          obtain ⟨cs9, hcs9⟩ : ∃ z, z = cs.set ms.length x := ⟨_, rfl⟩
          have hMI9 := hMI.app hx hy hc2
          rw [← hms9, ← hcs9] at hMI9
          obtain ⟨hMI9, hml9⟩ := hMI9
          refine c_region ?_
          refine wl (wl_val hl rfl trivial (r_move hl rfl) ?_)
          clear hl a; intro a hl
          refine wl (w_loadA hl hh rfl trivial agg73 rfl (by repeat (first | exact find_head | apply find_tail)) (by first | exact hrd | (simp only [List.getElem?_cons_zero, List.getElem?_cons_succ, Value.cells, List.take_zero, List.take_succ_cons, List.take_nil, List.drop_zero, List.drop_succ_cons, List.drop_nil, List.length_cons, List.length_nil, List.cons_append, List.nil_append, List.append_nil, Nat.zero_add, Nat.add_zero, Nat.reduceAdd, Nat.reduceBEq, Nat.reduceEqDiff, Nat.ble, BEq.rfl, Bool.and_true, Bool.and_self, cond_true, beq_self_eq_true]; rfl)) (by first | rfl | (simp; done)) ?_)
          clear hl a; intro a hl
          refine wl (w_buildSlice hl hh rfl trivial app48 zero73 rfl rfl rfl rfl rfl (by simp only [fillL, arrPl, List.range_succ, List.range_zero, List.map_cons, List.map_nil, List.map_append, List.nil_append, List.replicate_succ, List.replicate_zero, List.flatten_cons, List.flatten_nil, Nat.zero_mul, Nat.mul_one, Nat.one_mul, Nat.reduceMul, setL, List.getElem?_cons_zero, List.getElem?_cons_succ, Value.cells, List.take_zero, List.take_succ_cons, List.take_nil, List.drop_zero, List.drop_succ_cons, List.drop_nil, List.length_cons, List.length_nil, List.cons_append, List.nil_append, List.append_nil, Nat.zero_add, Nat.add_zero, Nat.reduceAdd, Nat.reduceBEq, Nat.reduceEqDiff, Nat.ble, BEq.rfl, Bool.and_true, Bool.and_self, cond_true, beq_self_eq_true]; rfl) ?_)
          clear hl hh a w; intro k94 a w hl hh
          refine wl (w_appendRoom (news := [.int .u32 ((bu + (x.s : Int)) % 4294967296), .int .u32 ((bu + (x.e : Int)) % 4294967296)]) hl hh rfl trivial app48 rfl rfl (by repeat (first | exact find_head | apply find_tail)) (hh.mem _ _ (Find.mem (by repeat (first | exact find_head | apply find_tail)))) (by omega) (row_room bu cs jj ms.length (by omega)) (by rfl) rfl rfl (fl_set0 bu cs x jj ms.length (by omega)) ?_)
          clear hl hh a w; intro a w hl hh
          refine wl (wl_val hl rfl trivial (r_assign hl rfl) ?_)
          clear hl a; intro a hl
          refine w_nil ?_
          have hl2 := hl.add (t := 0) (hl.add (t := 8) (hl.add (t := 74) (hl.add (t := 75) (hl.add (t := 76) (hl.nil) rfl) rfl) rfl) rfl) rfl; clear hl; have hl := hl2; clear hl2
          rw [← hml9] at hl
          rw [← hcs9] at hh
          refine blk_normal ?_
          refine then_normal ?_
          refine c_region ?_
          first | refine wl (wl_val hl rfl trivial (r_add hl rfl rfl (by simp only [Fits]; omega)) ?_) | refine wl (wl_val hl rfl trivial (r_addW hl rfl rfl) ?_)
          clear hl a; intro a hl
          refine wl (wl_val hl rfl trivial (r_move hl rfl) ?_)
          clear hl a; intro a hl
          refine w_nil ?_
          have hl2 := hl.add (t := 0) (hl.add (t := 8) (hl.add (t := 74) (hl.add (t := 75) (hl.add (t := 76) (hl.nil) rfl) rfl) rfl) rfl) rfl; clear hl; have hl := hl2; clear hl2
          refine then_normal ?_
          refine ⟨⟨i + 1, ms9, cs9⟩, (by have := hMI9.lt; simp only; omega), hMI9, hl.addE (t := 76) (hl.addE (t := 8) (hl.addE (t := 0) (hl.addE (t := 74) (hl.addE (t := 75) (hl.nil) rfl (by first | rfl | exact congrArg (Value.int .i64) (i_succ i) | exact congrArg (fun z => Value.slice z (xs.length - 1) (cc - 1)) (if_pos h1cc).symm)) rfl (by first | rfl | exact congrArg (Value.int .i64) (i_succ i) | exact congrArg (fun z => Value.slice z (xs.length - 1) (cc - 1)) (if_pos h1cc).symm)) rfl (by first | rfl | exact congrArg (Value.int .i64) (i_succ i) | exact congrArg (fun z => Value.slice z (xs.length - 1) (cc - 1)) (if_pos h1cc).symm)) rfl (by first | rfl | exact congrArg (Value.int .i64) (i_succ i) | exact congrArg (fun z => Value.slice z (xs.length - 1) (cc - 1)) (if_pos h1cc).symm)) rfl (by first | rfl | exact congrArg (Value.int .i64) (i_succ i) | exact congrArg (fun z => Value.slice z (xs.length - 1) (cc - 1)) (if_pos h1cc).symm), hh.keep (by repeat (first | exact keeps_nil | apply keeps_cons (by repeat (first | exact find_head | apply find_tail)) (by first  | rfl) | exact keeps_self | exact keeps_left | exact keeps_right | exact keeps_swap | apply keeps_mv))⟩
        · intro hc2
          try simp only [decide_eq_true_eq, decide_eq_false_iff_not, Bool.not_eq_true', Bool.not_eq_false', Bool.not_eq_true, Bool.not_eq_false, Bool.and_eq_true, Bool.or_eq_true, Bool.and_eq_false_iff, Bool.or_eq_false_iff, Bool.not_not, ne_eq, Int.not_lt, Int.not_le, Decidable.not_not, beq_iff_eq, bne_iff_ne] at hc2
          rw [less_b hyh x.h] at hc2
          simp only [decide_eq_false_iff_not] at hc2
          refine c_seq ?_
          refine c_draw [(bb, C (fl (bkc bu) cs ++ jj) 73), (k10, C [.int .u32 ((bu + (x.s : Int)) % 4294967296), .int .u32 ((bu + (x.e : Int)) % 4294967296)] 73)] [6] mixed hh ?_
          clear hh w; intro w hh
          have hM : Mem [(bb, C (fl (bkc bu) cs ++ jj) 73), (k10, C [.int .u32 ((bu + (x.s : Int)) % 4294967296), .int .u32 ((bu + (x.e : Int)) % 4294967296)] 73)] w := (by (repeat (first | exact Mem.nil | refine Mem.cons hh.mem (by (repeat (first | exact find_head | apply find_tail)); done) ?_ | refine Mem.consR hh (by assumption) (by simp) ?_ | fail)); done)
          refine d_take (i := 0) hl rfl (by kernel_rfl) (by kernel_rfl) (by kernel_rfl) (by kernel_rfl) (by kernel_rfl) rfl trivial (fun _ _ _ h => h) hM (fun w hC => r_move hl rfl) rfl ?_
          clear hl a; intro a hl
          refine d_take (i := 1) hl rfl (by kernel_rfl) (by kernel_rfl) (by kernel_rfl) (by kernel_rfl) (by kernel_rfl) rfl trivial (fun _ _ _ h => h) hM (fun w hC => r_nilCheck hl rfl) rfl ?_
          clear hl a; intro a hl
          refine d_take (i := 2) hl rfl (by kernel_rfl) (by kernel_rfl) (by kernel_rfl) (by kernel_rfl) (by kernel_rfl) rfl trivial (fun _ _ _ h => h) hM (fun w hC => r_field hl rfl fld73_1) rfl ?_
          clear hl a; intro a hl
          refine d_take (i := 3) hl rfl (by kernel_rfl) (by kernel_rfl) (by kernel_rfl) (by kernel_rfl) (by kernel_rfl) rfl trivial (fun _ _ _ h => h) hM (fun w hC => r_loadC hl rfl one29 hC (by repeat (first | exact find_head | apply find_tail)) (by first | exact hye | rfl)) rfl ?_
          clear hl a; intro a hl
          refine d_take (i := 4) hl rfl (by kernel_rfl) (by kernel_rfl) (by kernel_rfl) (by kernel_rfl) (by kernel_rfl) rfl trivial (fun _ _ _ h => h) hM (fun w hC => r_field hl rfl fld73_1) rfl ?_
          clear hl a; intro a hl
          refine d_take (i := 5) hl rfl (by kernel_rfl) (by kernel_rfl) (by kernel_rfl) (by kernel_rfl) (by kernel_rfl) rfl trivial (fun _ _ _ h => h) hM (fun w hC => r_loadC hl rfl one29 hC (by repeat (first | exact find_head | apply find_tail)) (by first | exact hye | rfl)) rfl ?_
          clear hl a; intro a hl
          refine d_one (i := 6) (by kernel_rfl) rfl ?_
          try clear hM
          refine id (w_call hl hh rfl trivial rfl cal39 rfl (less_spec _ _) (by repeat (first | exact keeps_nil | apply keeps_cons (by repeat (first | exact find_head | apply find_tail)) (by first  | rfl) | exact keeps_self | exact keeps_left | exact keeps_right | exact keeps_swap | apply keeps_mv)) trivial ?_)
          clear hl hh a w; intro vc Fc a w hR hl hh
          obtain ⟨rfl, rfl⟩ := hR
          try simp only [List.cons_append, List.nil_append] at hh
          refine d_step (fun h => absurd h (by decide)) ?_
          refine d_done (by kernel_rfl) ?_
          try clear hM
          have hl2 := hl.add (t := 0) (hl.add (t := 8) (hl.add (t := 10) (hl.add (t := 11) (hl.add (t := 74) (hl.add (t := 75) (hl.add (t := 76) (hl.add (t := 102) (hl.nil) rfl) rfl) rfl) rfl) rfl) rfl) rfl) rfl; clear hl; have hl := hl2; clear hl2
          refine then_normal ?_
          refine c_cond hl rfl ?_ ?_
          · intro hc3
            try simp only [decide_eq_true_eq, decide_eq_false_iff_not, Bool.not_eq_true', Bool.not_eq_false', Bool.not_eq_true, Bool.not_eq_false, Bool.and_eq_true, Bool.or_eq_true, Bool.and_eq_false_iff, Bool.or_eq_false_iff, Bool.not_not, ne_eq, Int.not_lt, Int.not_le, Decidable.not_not, beq_iff_eq, bne_iff_ne] at hc3
            rw [less_b hyh hxh] at hc3
            simp only [decide_eq_true_eq] at hc3
            obtain ⟨ms9, hms9⟩ : ∃ z, z = mstep ms x := ⟨_, rfl⟩
            obtain ⟨cs9, hcs9⟩ : ∃ z, z = cs.set (ms.length - 1) ⟨y.s, x.e, y.h⟩ := ⟨_, rfl⟩
            have hMI9 := hMI.ext hx hy hc2 hc3
            rw [← hms9, ← hcs9] at hMI9
            obtain ⟨hMI9, hml9⟩ := hMI9
            refine c_region ?_
            refine wl (wl_val hl rfl trivial (r_move hl rfl) ?_)
            clear hl a; intro a hl
            refine wl (wl_val hl rfl trivial (r_field hl rfl fld73_1) ?_)
            clear hl a; intro a hl
            refine wl (w_load hl hh rfl trivial one29 rfl (by repeat (first | exact find_head | apply find_tail)) (by first | exact hye | rfl) ?_)
            clear hl a; intro a hl
            refine wl (wl_val hl rfl trivial (r_nilCheck hl rfl) ?_)
            clear hl a; intro a hl
            refine wl (wl_val hl rfl trivial (r_field hl rfl fld73_1) ?_)
            clear hl a; intro a hl
            refine wl (w_store hl hh trivial one29 rfl rfl (by repeat (first | exact find_head | apply find_tail)) (by first | (simp; done) | (simp; omega) | (simp [bdL]; done) | (rw [List.length_append, fl_len (bkc_len bu)]; simp; omega)) (by first | rfl | assumption | (apply Row.one; assumption)) (by first | (exact fl_set1 bu cs y x.e jj _ hcy) | (simp only [bdL, setL, List.getElem?_cons_zero, List.getElem?_cons_succ, Value.cells, List.take_zero, List.take_succ_cons, List.take_nil, List.drop_zero, List.drop_succ_cons, List.drop_nil, List.length_cons, List.length_nil, List.cons_append, List.nil_append, List.append_nil, Nat.zero_add, Nat.add_zero, Nat.reduceAdd, Nat.reduceBEq, Nat.reduceEqDiff, Nat.ble, BEq.rfl, Bool.and_true, Bool.and_self, cond_true, beq_self_eq_true]; rfl) | (simp only [setL, List.getElem?_cons_zero, List.getElem?_cons_succ, Value.cells, List.take_zero, List.take_succ_cons, List.take_nil, List.drop_zero, List.drop_succ_cons, List.drop_nil, List.length_cons, List.length_nil, List.cons_append, List.nil_append, List.append_nil, Nat.zero_add, Nat.add_zero, Nat.reduceAdd, Nat.reduceBEq, Nat.reduceEqDiff, Nat.ble, BEq.rfl, Bool.and_true, Bool.and_self, cond_true, beq_self_eq_true]; rfl) | (simp only [setL, List.getElem?_cons_zero, List.getElem?_cons_succ, Value.cells, List.take_zero, List.take_succ_cons, List.take_nil, List.drop_zero, List.drop_succ_cons, List.drop_nil, List.length_cons, List.length_nil, List.cons_append, List.nil_append, List.append_nil, Nat.zero_add, Nat.add_zero, Nat.reduceAdd, Nat.reduceBEq, Nat.reduceEqDiff, Nat.ble, BEq.rfl, Bool.and_true, Bool.and_self, cond_true, beq_self_eq_true]; rfl)) ?_)
            clear hh w; intro w hh
            refine w_nil ?_
            have hl2 := hl.add (t := 0) (hl.add (t := 8) (hl.add (t := 74) (hl.add (t := 75) (hl.add (t := 76) (hl.nil) rfl) rfl) rfl) rfl) rfl; clear hl; have hl := hl2; clear hl2
            rw [← hml9] at hl
            rw [← hcs9] at hh
            refine blk_normal ?_
            refine then_normal ?_
            refine c_region ?_
            first | refine wl (wl_val hl rfl trivial (r_add hl rfl rfl (by simp only [Fits]; omega)) ?_) | refine wl (wl_val hl rfl trivial (r_addW hl rfl rfl) ?_)
            clear hl a; intro a hl
            refine wl (wl_val hl rfl trivial (r_move hl rfl) ?_)
            clear hl a; intro a hl
            refine w_nil ?_
            have hl2 := hl.add (t := 0) (hl.add (t := 8) (hl.add (t := 74) (hl.add (t := 75) (hl.add (t := 76) (hl.nil) rfl) rfl) rfl) rfl) rfl; clear hl; have hl := hl2; clear hl2
            refine then_normal ?_
            refine ⟨⟨i + 1, ms9, cs9⟩, (by have := hMI9.lt; simp only; omega), hMI9, hl.addE (t := 76) (hl.addE (t := 8) (hl.addE (t := 0) (hl.addE (t := 74) (hl.addE (t := 75) (hl.nil) rfl (by first | rfl | exact congrArg (Value.int .i64) (i_succ i) | exact congrArg (fun z => Value.slice z (xs.length - 1) (cc - 1)) (if_pos h1cc).symm)) rfl (by first | rfl | exact congrArg (Value.int .i64) (i_succ i) | exact congrArg (fun z => Value.slice z (xs.length - 1) (cc - 1)) (if_pos h1cc).symm)) rfl (by first | rfl | exact congrArg (Value.int .i64) (i_succ i) | exact congrArg (fun z => Value.slice z (xs.length - 1) (cc - 1)) (if_pos h1cc).symm)) rfl (by first | rfl | exact congrArg (Value.int .i64) (i_succ i) | exact congrArg (fun z => Value.slice z (xs.length - 1) (cc - 1)) (if_pos h1cc).symm)) rfl (by first | rfl | exact congrArg (Value.int .i64) (i_succ i) | exact congrArg (fun z => Value.slice z (xs.length - 1) (cc - 1)) (if_pos h1cc).symm), hh.keep (by repeat (first | exact keeps_nil | apply keeps_cons (by repeat (first | exact find_head | apply find_tail)) (by first  | rfl) | exact keeps_self | exact keeps_left | exact keeps_right | exact keeps_swap | apply keeps_mv))⟩
          · intro hc3
            try simp only [decide_eq_true_eq, decide_eq_false_iff_not, Bool.not_eq_true', Bool.not_eq_false', Bool.not_eq_true, Bool.not_eq_false, Bool.and_eq_true, Bool.or_eq_true, Bool.and_eq_false_iff, Bool.or_eq_false_iff, Bool.not_not, ne_eq, Int.not_lt, Int.not_le, Decidable.not_not, beq_iff_eq, bne_iff_ne] at hc3
            rw [less_b hyh hxh] at hc3
            simp only [decide_eq_false_iff_not] at hc3
            obtain ⟨ms9, hms9⟩ : ∃ z, z = mstep ms x := ⟨_, rfl⟩
            obtain ⟨cs9, hcs9⟩ : ∃ z, z = cs := ⟨_, rfl⟩
            have hMI9 := hMI.keep hx hy hc2 hc3
            rw [← hms9, ← hcs9] at hMI9
            obtain ⟨hMI9, hml9⟩ := hMI9
            rw [← hml9] at hl
            rw [← hcs9] at hh
            refine wp_skip ?_
            refine blk_normal ?_
            refine then_normal ?_
            refine c_region ?_
            first | refine wl (wl_val hl rfl trivial (r_add hl rfl rfl (by simp only [Fits]; omega)) ?_) | refine wl (wl_val hl rfl trivial (r_addW hl rfl rfl) ?_)
            clear hl a; intro a hl
            refine wl (wl_val hl rfl trivial (r_move hl rfl) ?_)
            clear hl a; intro a hl
            refine w_nil ?_
            have hl2 := hl.add (t := 0) (hl.add (t := 8) (hl.add (t := 74) (hl.add (t := 75) (hl.add (t := 76) (hl.nil) rfl) rfl) rfl) rfl) rfl; clear hl; have hl := hl2; clear hl2
            refine then_normal ?_
            refine ⟨⟨i + 1, ms9, cs9⟩, (by have := hMI9.lt; simp only; omega), hMI9, hl.addE (t := 76) (hl.addE (t := 8) (hl.addE (t := 0) (hl.addE (t := 74) (hl.addE (t := 75) (hl.nil) rfl (by first | rfl | exact congrArg (Value.int .i64) (i_succ i) | exact congrArg (fun z => Value.slice z (xs.length - 1) (cc - 1)) (if_pos h1cc).symm)) rfl (by first | rfl | exact congrArg (Value.int .i64) (i_succ i) | exact congrArg (fun z => Value.slice z (xs.length - 1) (cc - 1)) (if_pos h1cc).symm)) rfl (by first | rfl | exact congrArg (Value.int .i64) (i_succ i) | exact congrArg (fun z => Value.slice z (xs.length - 1) (cc - 1)) (if_pos h1cc).symm)) rfl (by first | rfl | exact congrArg (Value.int .i64) (i_succ i) | exact congrArg (fun z => Value.slice z (xs.length - 1) (cc - 1)) (if_pos h1cc).symm)) rfl (by first | rfl | exact congrArg (Value.int .i64) (i_succ i) | exact congrArg (fun z => Value.slice z (xs.length - 1) (cc - 1)) (if_pos h1cc).symm), hh.keep (by repeat (first | exact keeps_nil | apply keeps_cons (by repeat (first | exact find_head | apply find_tail)) (by first  | rfl) | exact keeps_self | exact keeps_left | exact keeps_right | exact keeps_swap | apply keeps_mv))⟩
      · intro hc1
        try simp only [decide_eq_true_eq, decide_eq_false_iff_not, Bool.not_eq_true', Bool.not_eq_false', Bool.not_eq_true, Bool.not_eq_false, Bool.and_eq_true, Bool.or_eq_true, Bool.and_eq_false_iff, Bool.or_eq_false_iff, Bool.not_not, ne_eq, Int.not_lt, Int.not_le, Decidable.not_not, beq_iff_eq, bne_iff_ne] at hc1
        have hie : i + 1 = l.length := by have := hMI.lt; omega
        have hmeq := hMI.eq
        rw [hie, List.take_length] at hmeq
        refine wp_exit ?_
        refine then_exit ?_
        refine then_exit ?_
        refine blk_exit ?_
        refine then_normal ?_
        refine c_seq ?_
        refine c_seq ?_
        refine c_region ?_
        refine wl (wl_val hl rfl trivial (r_move hl rfl) ?_)
        clear hl a; intro a hl
        refine wl (wl_val hl rfl trivial (r_lenS hl rfl slc48) ?_)
        clear hl a; intro a hl
        refine wl (wl_val hl rfl trivial (r_move hl rfl) ?_)
        clear hl a; intro a hl
        refine wl (wl_val hl rfl trivial (r_nilCheck hl rfl) ?_)
        clear hl a; intro a hl
        refine wl (wl_val hl rfl trivial (r_field hl rfl fld85_2) ?_)
        clear hl a; intro a hl
        refine wl (w_load hl hh rfl trivial one3 rfl (by repeat (first | exact find_head | apply find_tail)) (by first | exact hye | rfl) ?_)
        clear hl a; intro a hl
        refine wl (wl_val hl rfl trivial (r_gtr hl rfl rfl) ?_)
        clear hl a; intro a hl
        refine w_nil ?_
        have hl2 := hl.add (t := 0) (hl.add (t := 8) (hl.add (t := 115) (hl.nil) rfl) rfl) rfl; clear hl; have hl := hl2; clear hl2
        refine then_normal ?_
        refine c_cond hl rfl ?_ ?_
        · intro hc4
          try simp only [decide_eq_true_eq, decide_eq_false_iff_not, Bool.not_eq_true', Bool.not_eq_false', Bool.not_eq_true, Bool.not_eq_false, Bool.and_eq_true, Bool.or_eq_true, Bool.and_eq_false_iff, Bool.or_eq_false_iff, Bool.not_not, ne_eq, Int.not_lt, Int.not_le, Decidable.not_not, beq_iff_eq, bne_iff_ne] at hc4
          refine c_seq ?_
          refine c_region ?_
          refine wl (wl_val hl rfl trivial (r_assign hl rfl) ?_)
          clear hl a; intro a hl
          refine w_nil ?_
          have hl2 := hl.add (t := 4) (hl.nil) rfl; clear hl; have hl := hl2; clear hl2
          refine then_normal ?_
          refine wp_ret ?_
          refine then_ret ?_
          refine f_ret1 (F' := (sb, C (bdL bu bn (.slice p os.length c)) 85) :: E) hl hh rfl rfl (by repeat (first | exact keeps_nil | apply keeps_cons (by repeat (first | exact find_head | apply find_tail)) (by first  | rfl) | exact keeps_self | exact keeps_left | exact keeps_right | exact keeps_swap | apply keeps_mv)) ?_
          exact ⟨os, 0, _, E, rfl, .inr ⟨hlo, l, by rw [← hxs]; exact hlp, hls, .inl ⟨by rw [← hmeq]; omega, rfl, rfl⟩⟩, hR, rfl⟩
        · intro hc4
          try simp only [decide_eq_true_eq, decide_eq_false_iff_not, Bool.not_eq_true', Bool.not_eq_false', Bool.not_eq_true, Bool.not_eq_false, Bool.and_eq_true, Bool.or_eq_true, Bool.and_eq_false_iff, Bool.or_eq_false_iff, Bool.not_not, ne_eq, Int.not_lt, Int.not_le, Decidable.not_not, beq_iff_eq, bne_iff_ne] at hc4
          obtain ⟨jj2, hjj2⟩ : ∃ z, fl (bkc bu) cs ++ jj = fl (bkc bu) ms ++ z := ⟨fl (bkc bu) (cs.drop ms.length) ++ jj, by rw [fl_split cs ms.length, hMI.tk, List.append_assoc]⟩
          have hcs2 : (fl (bkc bu) ms ++ jj2).length = cc * 2 := by rw [← hjj2, List.length_append, fl_len (bkc_len bu), hMI.len, hll, ← hjl, List.length_append, fl_len (bkc_len bu)]
          rw [hjj2] at hh
          have hrow9 : Row (.slice (some ⟨bb, 0, none⟩) ms.length cc) ms.length (fl (bkc bu) ms) 2 73 [(bb, C (fl (bkc bu) ms ++ jj2) 73)] := .inr ⟨bb, cc, jj2, rfl, by rw [fl_len (bkc_len bu)], hcs2, by have := hMI.le; omega, rfl⟩
          refine wp_skip ?_
          refine then_normal ?_
          refine c_seq ?_
          refine c_region ?_
          refine wl (wl_val hl rfl trivial (r_move hl rfl) ?_)
          clear hl a; intro a hl
          refine wl (w_call hl hh rfl trivial rfl cal59 rfl (covO_spec sb bu bn os (by omega) p c E hR) (by repeat (first | exact keeps_nil | apply keeps_cons (by repeat (first | exact find_head | apply find_tail)) (by first  | rfl) | exact keeps_self | exact keeps_left | exact keeps_right | exact keeps_swap | apply keeps_mv)) ⟨(hh.mem _ _ (Find.mem (by repeat (first | exact find_head | apply find_tail)))), fun b o m => hh.mem b o (by simp [m])⟩ ?_)
          clear hl hh a w; intro vc Fc a w hR hl hh
          obtain ⟨rfl, rfl⟩ := hR
          try simp only [List.cons_append, List.nil_append] at hh
          refine wl (wl_val hl rfl trivial (r_assign hl rfl) ?_)
          clear hl a; intro a hl
          refine w_nil ?_
          have hl2 := hl.add (t := 0) (hl.add (t := 8) (hl.add (t := 12) (hl.nil) rfl) rfl) rfl; clear hl; have hl := hl2; clear hl2
          refine then_normal ?_
          refine c_seq ?_
          refine c_region ?_
          refine wl (wl_val hl rfl trivial (r_move hl rfl) ?_)
          clear hl a; intro a hl
          refine wl (wl_val hl rfl trivial (r_move hl rfl) ?_)
          clear hl a; intro a hl
          refine wl (wl_val hl rfl trivial (r_nilCheck hl rfl) ?_)
          clear hl a; intro a hl
          refine wl (wl_val hl rfl trivial (r_field hl rfl fld85_3) ?_)
          clear hl a; intro a hl
          refine wl (w_store hl hh trivial one48 rfl rfl (by repeat (first | exact find_head | apply find_tail)) (by first | (simp; done) | (simp; omega) | (simp [bdL]; done) | (rw [List.length_append, fl_len (bkc_len bu)]; simp; omega)) (by first | rfl | assumption | (apply Row.one; assumption)) (by first | (exact fl_set1 bu cs y x.e jj _ hcy) | (simp only [bdL, setL, List.getElem?_cons_zero, List.getElem?_cons_succ, Value.cells, List.take_zero, List.take_succ_cons, List.take_nil, List.drop_zero, List.drop_succ_cons, List.drop_nil, List.length_cons, List.length_nil, List.cons_append, List.nil_append, List.append_nil, Nat.zero_add, Nat.add_zero, Nat.reduceAdd, Nat.reduceBEq, Nat.reduceEqDiff, Nat.ble, BEq.rfl, Bool.and_true, Bool.and_self, cond_true, beq_self_eq_true]; rfl) | (simp only [setL, List.getElem?_cons_zero, List.getElem?_cons_succ, Value.cells, List.take_zero, List.take_succ_cons, List.take_nil, List.drop_zero, List.drop_succ_cons, List.drop_nil, List.length_cons, List.length_nil, List.cons_append, List.nil_append, List.append_nil, Nat.zero_add, Nat.add_zero, Nat.reduceAdd, Nat.reduceBEq, Nat.reduceEqDiff, Nat.ble, BEq.rfl, Bool.and_true, Bool.and_self, cond_true, beq_self_eq_true]; rfl) | (simp only [setL, List.getElem?_cons_zero, List.getElem?_cons_succ, Value.cells, List.take_zero, List.take_succ_cons, List.take_nil, List.drop_zero, List.drop_succ_cons, List.drop_nil, List.length_cons, List.length_nil, List.cons_append, List.nil_append, List.append_nil, Nat.zero_add, Nat.add_zero, Nat.reduceAdd, Nat.reduceBEq, Nat.reduceEqDiff, Nat.ble, BEq.rfl, Bool.and_true, Bool.and_self, cond_true, beq_self_eq_true]; rfl)) ?_)
          clear hh w; intro w hh
          refine w_nil ?_
          have hl2 := hl.add (t := 0) (hl.add (t := 12) (hl.nil) rfl) rfl; clear hl; have hl := hl2; clear hl2
          refine then_normal ?_
          refine c_seq ?_
          refine c_region ?_
          refine wl (wl_val hl rfl trivial (r_move hl rfl) ?_)
          clear hl a; intro a hl
          refine wl (w_call hl hh rfl trivial rfl cal59 rfl (covO_spec sb bu bn ms (by omega) (some ⟨bb, 0, none⟩) cc [(bb, C (fl (bkc bu) ms ++ jj2) 73)] hrow9) (by repeat (first | exact keeps_nil | apply keeps_cons (by repeat (first | exact find_head | apply find_tail)) (by first  | rfl) | exact keeps_self | exact keeps_left | exact keeps_right | exact keeps_swap | apply keeps_mv)) ⟨(hh.mem _ _ (Find.mem (by repeat (first | exact find_head | apply find_tail)))), fun b o m => by rw [List.mem_singleton] at m; cases m; exact hh.mem _ _ (Find.mem (by repeat (first | exact find_head | apply find_tail)))⟩ ?_)
          clear hl hh a w; intro vc Fc a w hR hl hh
          obtain ⟨rfl, rfl⟩ := hR
          try simp only [List.cons_append, List.nil_append] at hh
          refine wl (wl_val hl rfl trivial (r_move hl rfl) ?_)
          clear hl a; intro a hl
          refine wl (wl_val hl rfl trivial (r_subM wm_u32 hl rfl rfl) ?_)
          clear hl a; intro a hl
          refine wl (wl_val hl rfl trivial (r_assign hl rfl) ?_)
          clear hl a; intro a hl
          refine w_nil ?_
          have hl2 := hl.add (t := 4) (hl.nil) rfl; clear hl; have hl := hl2; clear hl2
          refine then_normal ?_
          refine wp_ret ?_
          refine f_ret1 (F' := [(sb, C (bdL bu bn (.slice (some ⟨bb, 0, none⟩) ms.length cc)) 85), (bb, C (fl (bkc bu) ms ++ jj2) 73)]) hl hh rfl rfl (by repeat (first | exact keeps_nil | apply keeps_cons (by repeat (first | exact find_head | apply find_tail)) (by first  | rfl) | exact keeps_self | exact keeps_left | exact keeps_right | exact keeps_swap | apply keeps_mv)) ?_
          exact ⟨ms, _, _, [(bb, C (fl (bkc bu) ms ++ jj2) 73)], rfl, .inr ⟨hlo, l, by rw [← hxs]; exact hlp, hls, .inr ⟨by rw [← hmeq]; omega, hmeq, by rw [← hmeq]⟩⟩, hrow9, rfl⟩
end Go.Proofs.Qxb6500912aGreatDoor

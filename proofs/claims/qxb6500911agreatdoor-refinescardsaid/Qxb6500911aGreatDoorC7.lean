import Derived.Test.Qxb6500911aGreatDoorC3
import Derived.Test.Qxb6500911aGreatDoorC4
import Derived.Test.Qxb6500911aGreatDoorC5
import Derived.Test.Qxb6500911aGreatDoorC6
namespace Go.Proofs.Qxb6500911aGreatDoor
open Go.Eng
set_option linter.unusedVariables false
set_option linter.unusedSimpArgs false

/-! ## the rounds of pdqsort -/
open Go.Sort in
theorem sp_ofW {f : FuncId} {args : Array Value} {b Bs : Nat} {junk sL : List Value} {d d' : Array Eg} (hs : d'.size = d.size)
    (h : ∀ w : World, w.heap[b]? = some (C (fl egc d.toList ++ junk) 102) → Calls Tryz.prog f args w (fun e w' => e = .returned (.tuple #[]) ∧ ∃ m os, w' = Go.Proofs.sortWorldK egc 4 w b 0 m d' os)) :
    Sp Tryz.prog f args [(b, C (fl egc d.toList ++ junk) 102), (Bs, C sL 46)] (fun v F' => v = .tuple #[] ∧ F' = [(b, C (fl egc d'.toList ++ junk) 102), (Bs, C sL 46)]) := by
  intro w _ hm hn
  have hb : w.heap[b]? = some (C (fl egc d.toList ++ junk) 102) := hm _ _ (List.mem_cons_self ..)
  have hB : w.heap[Bs]? = some (C sL 46) := hm _ _ (List.mem_cons_of_mem _ (List.mem_cons_self ..))
  have hne : Bs ≠ b := by
    simp at hn
    exact fun e => hn e.symm
  have hbl : b < w.heap.size := (Array.getElem?_eq_some_iff.1 hb).1
  have hsl : Bs < w.heap.size := (Array.getElem?_eq_some_iff.1 hB).1
  refine (h w hb).mono ?_
  rintro e w' ⟨rfl, m, os, rfl⟩
  unfold Go.Proofs.sortWorldK
  have hp := heap_putG egc 4 egc_len (by decide) d d' junk hs (Sort.ahead w m) b 102 hb
  have hsz : (putRowK egc 4 (Sort.ahead w m) b 0 d').heap.size = w.heap.size := by rw [size_putRowK]; rfl
  have hold : ∀ k, k < w.heap.size → (grow (putRowK egc 4 (Sort.ahead w m) b 0 d') os).heap[k]? = (w.heap.setIfInBounds b (C (fl egc d'.toList ++ junk) 102))[k]? := fun k hk => by
    rw [heap_grow_old _ _ (by rw [hsz]; exact hk), hp]; rfl
  refine ⟨_, ⟨rfl, rfl⟩, ⟨rfl, rfl, rfl, ?_, fun k hk hD => ?_⟩, fun k o mm => ?_, by simpa using hn, fun k o mm => ?_⟩
  · rw [size_grow, hsz]; omega
  · rw [hold k hk, Array.getElem?_setIfInBounds, if_neg]
    intro e9; subst e9; exact hD (by simp)
  · simp only [List.mem_cons, List.not_mem_nil, or_false, Prod.mk.injEq] at mm
    rcases mm with ⟨rfl, rfl⟩ | ⟨rfl, rfl⟩
    · rw [hold _ hbl, Array.getElem?_setIfInBounds, if_pos rfl, if_pos hbl]
    · rw [hold _ hsl, Array.getElem?_setIfInBounds, if_neg (fun e9 => hne e9.symm)]; exact hB
  · simp only [List.mem_cons, List.not_mem_nil, or_false, Prod.mk.injEq] at mm
    rcases mm with ⟨rfl, rfl⟩ | ⟨rfl, rfl⟩ <;> exact .inl (by simp)
open Go.Shelf in
shelf_lay LaysGg.n6 Ggs 6 at Tryz as sl6
theorem hint_2 {h : Go.Sort.Hint} (e : hintI h = 2) : h = .decreasing := by cases h <;> first | rfl | exact absurd e (by decide)
theorem hint_n2 {h : Go.Sort.Hint} (e : ¬ hintI h = 2) : h ≠ .decreasing := fun e2 => by subst e2; exact e rfl
theorem hint_1 {h : Go.Sort.Hint} (e : hintI h = 1) : h = .increasing := by cases h <;> first | rfl | exact absurd e (by decide)
theorem hint_n1 {h : Go.Sort.Hint} (e : ¬ hintI h = 1) : h ≠ .increasing := fun e2 => by subst e2; exact e rfl
/-- the values of one round -/
structure Rd (d : Array Eg) (lo hi li : Nat) (wb wp : Bool) (d1 : Array Eg) (l1 : Nat) (cp : Nat × Go.Sort.Hint) (d2 : Array Eg) (pv : Nat) (hint : Go.Sort.Hint) (pr : Array Eg × Bool) : Prop where
  h12 : 12 < hi - lo
  hli : li ≠ 0
  e1 : d1 = if (!wb) = true then Go.Sort.breakPatterns d lo hi else d
  el : l1 = if (!wb) = true then li - 1 else li
  ec : cp = Go.Sort.choosePivot egB d1 lo hi
  e2 : d2 = if cp.2 = .decreasing then Go.Sort.reverseRange d1 lo hi else d1
  ep : pv = if cp.2 = .decreasing then (hi - 1) - (cp.1 - lo) else cp.1
  eh : hint = if cp.2 = .decreasing then Go.Sort.Hint.increasing else cp.2
  ei : pr = if (wb && wp && decide (hint = .increasing)) = true then Go.Sort.partialInsertionSort egB d2 lo hi else (d2, false)
section rds
variable {d : Array Eg} {lo hi li : Nat} {wb wp : Bool} {d1 : Array Eg} {l1 : Nat} {cp : Nat × Go.Sort.Hint} {d2 : Array Eg} {pv : Nat} {hint : Go.Sort.Hint} {pr : Array Eg × Bool}
theorem Rd.ret (h : Rd d lo hi li wb wp d1 l1 cp d2 pv hint pr) (hp : pr.2 = true) : Go.Sort.pdq egB d lo hi li wb wp = pr.1 := by
  rw [Go.Sort.pdq, if_neg (by have := h.h12; omega), if_neg h.hli]
  simp only
  rw [← h.e1, ← h.ec, ← h.e2, ← h.eh, ← h.ei, if_pos hp]
theorem Rd.eqs (h : Rd d lo hi li wb wp d1 l1 cp d2 pv hint pr) (hp : pr.2 = false) (hc : (decide (lo > 0) && !egB pr.1[lo - 1]! pr.1[pv]!) = true) {mid : Nat} {d4 : Array Eg} (hm : Go.Sort.partitionEqual egB pr.1 lo hi pv = (mid, d4)) (h1 : lo < mid) (h2 : mid ≤ hi) :
    Go.Sort.pdq egB d lo hi li wb wp = Go.Sort.pdq egB d4 mid hi l1 wb wp := by
  conv => lhs; rw [Go.Sort.pdq, if_neg (by have := h.h12; omega), if_neg h.hli]
  simp only
  rw [← h.e1, ← h.ec, ← h.e2, ← h.eh, ← h.ei, ← h.ep, ← h.el, if_neg (by rw [hp]; simp), if_pos hc, hm]
  simp only
  rw [dif_pos ⟨h1, h2⟩]
theorem Rd.left (h : Rd d lo hi li wb wp d1 l1 cp d2 pv hint pr) (hp : pr.2 = false) (hc : (decide (lo > 0) && !egB pr.1[lo - 1]! pr.1[pv]!) = false) {mid : Nat} {ap : Bool} {d4 : Array Eg} (hm : Go.Sort.partition egB pr.1 lo hi pv = (mid, ap, d4)) (h1 : lo ≤ mid) (h2 : mid < hi) (h3 : mid - lo < hi - mid) :
    Go.Sort.pdq egB d lo hi li wb wp = Go.Sort.pdq egB (Go.Sort.pdq egB d4 lo mid l1 true true) (mid + 1) hi l1 (decide (mid - lo ≥ (hi - lo) / 8)) ap := by
  conv => lhs; rw [Go.Sort.pdq, if_neg (by have := h.h12; omega), if_neg h.hli]
  simp only
  rw [← h.e1, ← h.ec, ← h.e2, ← h.eh, ← h.ei, ← h.ep, ← h.el, if_neg (by rw [hp]; simp), if_neg (by rw [hc]; simp), hm]
  simp only
  rw [dif_pos ⟨h1, h2⟩, if_pos h3]
theorem Rd.right (h : Rd d lo hi li wb wp d1 l1 cp d2 pv hint pr) (hp : pr.2 = false) (hc : (decide (lo > 0) && !egB pr.1[lo - 1]! pr.1[pv]!) = false) {mid : Nat} {ap : Bool} {d4 : Array Eg} (hm : Go.Sort.partition egB pr.1 lo hi pv = (mid, ap, d4)) (h1 : lo ≤ mid) (h2 : mid < hi) (h3 : ¬ mid - lo < hi - mid) :
    Go.Sort.pdq egB d lo hi li wb wp = Go.Sort.pdq egB (Go.Sort.pdq egB d4 (mid + 1) hi l1 true true) lo mid l1 (decide (hi - mid ≥ (hi - lo) / 8)) ap := by
  conv => lhs; rw [Go.Sort.pdq, if_neg (by have := h.h12; omega), if_neg h.hli]
  simp only
  rw [← h.e1, ← h.ec, ← h.e2, ← h.eh, ← h.ei, ← h.ep, ← h.el, if_neg (by rw [hp]; simp), if_neg (by rw [hc]; simp), hm]
  simp only
  rw [dif_pos ⟨h1, h2⟩, if_neg h3]
end rds
theorem pdq_ins {d : Array Eg} {lo hi li : Nat} {wb wp : Bool} (h : hi - lo ≤ 12) : Go.Sort.pdq egB d lo hi li wb wp = Go.Sort.insertionSort egB d lo hi := by rw [Go.Sort.pdq, if_pos h]
theorem pdq_heap {d : Array Eg} {lo hi li : Nat} {wb wp : Bool} (h : 12 < hi - lo) (h0 : li = 0) : Go.Sort.pdq egB d lo hi li wb wp = Go.Sort.heapSort egB d lo hi := by rw [Go.Sort.pdq, if_neg (by omega), if_pos h0]
structure PZ6 where
  d : Array Eg
  lo : Nat
  hi : Nat
  li : Nat
  wb : Bool
  wp : Bool


theorem brk_spec {b Bs n c : Nat} {th : Value} {sL junk : List Value} {d : Array Eg} (hE : SE b Bs n c th sL d) (lo hi : Nat) (hab : lo ≤ hi) (hhi : hi ≤ n) : Sp Tryz.prog 108 #[.agg ⟨[lessV Bs, swapV b n c th]⟩, .int .i64 (lo : Int), .int .i64 (hi : Int)] [(b, C (fl egc d.toList ++ junk) 102), (Bs, C sL 46)] (fun v F' => v = .tuple #[] ∧ F' = [(b, C (fl egc (Sort.breakPatterns d lo hi).toList ++ junk) 102), (Bs, C sL 46)] ∧ (Sort.breakPatterns d lo hi).size = n) := by
  have hp := Go.Sort.breakPatterns_holds d lo hi hab (by rw [hE.sz]; exact hhi)
  refine spk_post (sp_ofW hp.1 (fun w hb => ?_)) (fun v F' h => ⟨h.1, h.2, hp.1.trans hE.sz⟩)
  have := Go.Proofs.Any.breakPatterns_func_cells_w (P := Tryz.prog) { sl6 with } egc 4 egc_len (.func 62) #[] #[.pointer (some ⟨Bs, 0, none⟩)] 103 #[.slice (some ⟨b, 0, none⟩) n c, th] b 0 lo hi d w (by rw [hE.sz]; exact hE.sw) (holds_rowG egc 4 egc_len (by decide) d junk w b 102 hb) ((Array.getElem?_eq_some_iff.1 hb).1) hab (by rw [hE.sz]; exact hhi) (by rw [hE.sz]; exact hE.big)
  exact this
theorem rev_spec {b Bs n c : Nat} {th : Value} {sL junk : List Value} {d : Array Eg} (hE : SE b Bs n c th sL d) (lo hi : Nat) (hab : lo ≤ hi) (hhi : hi ≤ n) : Sp Tryz.prog 110 #[.agg ⟨[lessV Bs, swapV b n c th]⟩, .int .i64 (lo : Int), .int .i64 (hi : Int)] [(b, C (fl egc d.toList ++ junk) 102), (Bs, C sL 46)] (fun v F' => v = .tuple #[] ∧ F' = [(b, C (fl egc (Sort.reverseRange d lo hi).toList ++ junk) 102), (Bs, C sL 46)] ∧ (Sort.reverseRange d lo hi).size = n) := by
  have hp := Go.Sort.reverseRange_holds d lo hi hab (by rw [hE.sz]; exact hhi)
  refine spk_post (sp_ofW hp.1 (fun w hb => ?_)) (fun v F' h => ⟨h.1, h.2, hp.1.trans hE.sz⟩)
  have := Go.Proofs.Any.reverseRange_func_cells_w (P := Tryz.prog) { sl6 with } egc 4 egc_len (.func 62) #[] #[.pointer (some ⟨Bs, 0, none⟩)] 103 #[.slice (some ⟨b, 0, none⟩) n c, th] b 0 lo hi d w (by rw [hE.sz]; exact hE.sw) (holds_rowG egc 4 egc_len (by decide) d junk w b 102 hb) ((Array.getElem?_eq_some_iff.1 hb).1) hab (by rw [hE.sz]; exact hhi) (by rw [hE.sz]; exact hE.big)
  exact this
end Go.Proofs.Qxb6500911aGreatDoor

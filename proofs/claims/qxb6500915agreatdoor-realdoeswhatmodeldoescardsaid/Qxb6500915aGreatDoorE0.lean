import Derived.Test.Qxb6500915aGreatDoorD6
namespace Go.Proofs.Qxb6500915aGreatDoor
open Go.Eng
set_option linter.unusedVariables false
set_option linter.unusedSimpArgs false
theorem fld93_0 : fieldOk Tryz.prog 93 0 0 = true := by kernel_rfl
/-! ## insertion sort -/
section isort
variable {α : Type} {le : α → α → Prop} {lt : α → α → Prop}
/-- the sorted part, less the element on its way down -/
structure Ins (le lt : α → α → Prop) (l0 l : List α) (i j : Nat) : Prop where
  p : l.Perm l0
  d : ∃ A x B C, l = A ++ x :: (B ++ C) ∧ A.length = j ∧ A.length + B.length = i ∧ (A ++ B).Pairwise le ∧ ∀ b, b ∈ B → lt x b
theorem ins_start {l0 l : List α} {i : Nat} (h : l.Perm l0) (hs : (l.take i).Pairwise le) (hi : i < l.length) : Ins le lt l0 l i i := by
  refine ⟨h, l.take i, l[i], [], l.drop (i + 1), ?_, by rw [List.length_take]; omega, by rw [List.length_take]; simp; omega, by rw [List.append_nil]; exact hs, fun b hb => by cases hb⟩
  rw [List.nil_append, ← List.drop_eq_getElem_cons hi, List.take_append_drop]
theorem ins_step {l0 l : List α} {i j : Nat} {x a : α} (h : Ins le lt l0 l i (j + 1)) (hx : l[j + 1]? = some x) (ha : l[j]? = some a) (hlt : lt x a) (htr : ∀ p q r, lt p q → le q r → lt p r) : Ins le lt l0 ((l.set (j + 1) a).set j x) i j := by
  obtain ⟨hp, A, x', B, C, e, h1, h2, h3, h4⟩ := h
  obtain ⟨A', a', rfl⟩ : ∃ A' a', A = A' ++ [a'] := by
    rcases List.eq_nil_or_concat A with h0 | ⟨A', a', h0⟩
    · rw [h0] at h1; simp at h1
    · exact ⟨A', a', by rw [h0, List.concat_eq_append]⟩
  have hl' : A'.length = j := by simp at h1; omega
  have ex : x' = x := by
    rw [e, List.getElem?_append_right (by rw [h1]; exact Nat.le_refl _), h1, Nat.sub_self] at hx
    simpa using hx
  have ea : a' = a := by
    rw [e, List.append_assoc, List.getElem?_append_right (by omega), hl', Nat.sub_self] at ha
    simpa using ha
  subst ex; subst ea
  have e2 : (l.set (j + 1) a').set j x' = A' ++ x' :: ((a' :: B) ++ C) := by
    rw [e, List.append_assoc]
    rw [List.set_append_right _ _ (by omega), show j + 1 - A'.length = 1 by omega]
    rw [List.set_append_right _ _ (by omega), show j - A'.length = 0 by omega]
    rfl
  refine ⟨?_, A', x', a' :: B, C, e2, hl', by simp at h2; simp; omega, by simpa using h3, ?_⟩
  · rw [e2]
    refine List.Perm.trans ?_ hp
    rw [e]
    simp only [List.append_assoc, List.cons_append, List.nil_append]
    exact List.Perm.append_left A' (List.Perm.swap _ _ _)
  · intro b hb
    rcases List.mem_cons.1 hb with rfl | hb
    · exact hlt
    · refine htr _ _ _ hlt ?_
      rw [List.append_assoc, List.pairwise_append] at h3
      exact (List.pairwise_cons.1 h3.2.1).1 b hb
theorem ins_stop {l0 l : List α} {i j : Nat} (h : Ins le lt l0 l i j) (hj : j = 0 ∨ ∃ k x a, j = k + 1 ∧ l[k + 1]? = some x ∧ l[k]? = some a ∧ le a x) (htr : ∀ p q r, le p q → le q r → le p r) (hlt : ∀ p q, lt p q → le p q) : (l.take (i + 1)).Pairwise le := by
  obtain ⟨hp, A, x', B, C, e, h1, h2, h3, h4⟩ := h
  have e1 : l.take (i + 1) = A ++ x' :: B := by
    rw [e, show A ++ x' :: (B ++ C) = (A ++ x' :: B) ++ C by simp]
    rw [List.take_append_of_le_length (by simp; omega), List.take_of_length_le (by simp; omega)]
  rw [e1]
  rw [List.pairwise_append] at h3 ⊢
  refine ⟨h3.1, List.pairwise_cons.2 ⟨fun b hb => hlt _ _ (h4 b hb), h3.2.1⟩, ?_⟩
  intro p hpA q hq
  have hax : le p x' := by
    rcases hj with hj | ⟨k, x, a, hk, hx, ha, hle⟩
    · rw [hj] at h1
      rw [List.eq_nil_of_length_eq_zero h1] at hpA; cases hpA
    · obtain ⟨A', a', rfl⟩ : ∃ A' a', A = A' ++ [a'] := by
        rcases List.eq_nil_or_concat A with h0 | ⟨A', a', h0⟩
        · rw [h0] at hpA; cases hpA
        · exact ⟨A', a', by rw [h0, List.concat_eq_append]⟩
      have hl' : A'.length = k := by simp at h1; omega
      have ex : x' = x := by
        rw [e, List.getElem?_append_right (by omega), show k + 1 - (A' ++ [a']).length = 0 by omega] at hx
        simpa using hx
      have ea : a' = a := by
        rw [e, List.append_assoc, List.getElem?_append_right (by omega), hl', Nat.sub_self] at ha
        simpa using ha
      subst ex; subst ea
      rcases List.mem_append.1 hpA with h9 | h9
      · rw [List.pairwise_append] at h3
        exact htr _ _ _ (h3.1.2.2 p h9 a' (by simp)) hle
      · rw [List.mem_singleton.1 h9]; exact hle
  rcases List.mem_cons.1 hq with rfl | hq
  · exact hax
  · exact h3.2.2 p hpA q hq
end isort
theorem less_cmp : ∀ a b : List UInt8, Op.bytesLess a b = decide (Lib.compareBytes a b < 0)
  | [], [] => rfl
  | [], _ :: _ => rfl
  | _ :: _, [] => rfl
  | a :: l, b :: m => by
    unfold Op.bytesLess Lib.compareBytes
    by_cases h1 : a < b
    · simp [h1]
    · by_cases h2 : b < a
      · have h9 : ¬ a = b := fun e => by rw [e] at h2; exact absurd h2 (by rw [e] at h1; exact h1)
        simp [h1, h2, h9]
      · have h9 : a = b := by
          have h5 : ¬ a.toNat < b.toNat := h1
          have h6 : ¬ b.toNat < a.toNat := h2
          exact UInt8.toNat_inj.1 (by omega)
        have h3 := less_cmp l m
        simp [h9, h3]
section lss
variable {P : Program} {n : Nat} {L : List (Nat × Value)} {a : Act} {w : World} {x y : Operand} {T : TypeId} {pos : String} {aft : Array Edge} {g : Option (Nat × Bool)} {dst : Option Nat}
theorem r_lss_string {t u : TypeId} {p q : ByteArray} (hl : Sl n L a) (hx : val L x = some (.string p)) (hy : val L y = some (.string q)) : Gives P a ⟨dst, .binOp .lss t x y u, T, pos, aft, g⟩ w (.bool (decide (cmpS p q < 0))) w := by
  have h : Op.bytesLess p.toList q.toList = decide (cmpS p q < 0) := by
    rw [ByteArray.toList_eq, ByteArray.toList_eq, less_cmp]; rfl
  simp [Gives, execOp, hl.ev hx, hl.ev hy, eqGuard, binOp, Op.stringOp, h]
end lss


set_option maxHeartbeats 1000000 in
theorem lessP_spec (x y : Pd) : Sp Tryz.prog 64 #[.agg ⟨[.string x.n, .int .i64 (x.a : Int), .int .i64 (x.s : Int)]⟩, .agg ⟨[.string y.n, .int .i64 (y.a : Int), .int .i64 (y.s : Int)]⟩] [] (fun v F' => v = .bool (decide (cmpS x.n y.n < 0)) ∧ F' = []) := by
  refine f_enter (args := [.agg ⟨[.string x.n, .int .i64 (x.a : Int), .int .i64 (x.s : Int)]⟩, .agg ⟨[.string y.n, .int .i64 (y.a : Int), .int .i64 (y.s : Int)]⟩]) Tryz.func64 rfl Tryz.ntmps64 rfl ?_
  intro w0 w a hpre hl hh
  simp only [slotsFrom, Nat.reduceAdd] at hl
  refine c_seq ?_
  refine c_region ?_
  refine wl (w_box hl hh rfl trivial rfl rfl ?_)
  clear hl hh a w; intro k2 a w hl hh
  refine wl (w_box hl hh rfl trivial rfl rfl ?_)
  clear hl hh a w; intro k3 a w hl hh
  refine wl (wl_val hl rfl trivial (r_assign hl rfl) ?_)
  clear hl a; intro a hl
  refine w_nil ?_
  have hl2 := hl.add (t := 2) (hl.add (t := 3) (hl.nil) rfl) rfl; clear hl; have hl := hl2; clear hl2
  refine then_normal ?_
  refine c_seq ?_
  refine c_region ?_
  refine wl (wl_val hl rfl trivial (r_field hl rfl fld93_0) ?_)
  clear hl a; intro a hl
  refine wl (w_load hl hh rfl trivial one9 rfl (by repeat (first | exact find_head | apply find_tail)) (by first | rfl) ?_)
  clear hl a; intro a hl
  refine wl (wl_val hl rfl trivial (r_field hl rfl fld93_0) ?_)
  clear hl a; intro a hl
  refine wl (w_load hl hh rfl trivial one9 rfl (by repeat (first | exact find_head | apply find_tail)) (by first | rfl) ?_)
  clear hl a; intro a hl
  refine wl (wl_val hl rfl trivial (r_lss_string hl rfl rfl) ?_)
  clear hl a; intro a hl
  refine wl (wl_val hl rfl trivial (r_assign hl rfl) ?_)
  clear hl a; intro a hl
  refine w_nil ?_
  have hl2 := hl.add (t := 4) (hl.nil) rfl; clear hl; have hl := hl2; clear hl2
  refine then_normal ?_
  refine wp_ret ?_
  refine f_ret1 (F' := []) hl hh rfl rfl (by repeat (first | exact keeps_nil | apply keeps_cons (by repeat (first | exact find_head | apply find_tail)) (by first  | rfl) | exact keeps_self | apply keeps_mv)) ?_
  exact ⟨rfl, rfl⟩
end Go.Proofs.Qxb6500915aGreatDoor

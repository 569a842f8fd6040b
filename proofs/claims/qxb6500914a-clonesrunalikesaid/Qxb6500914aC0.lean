import Derived.Test.Qxb6500914aL0
namespace Go.Proofs.Qxb6500914a
open Go.Eng
set_option linter.unusedVariables false
set_option linter.unusedSimpArgs false
theorem agg75 : aggOk Try.prog 75 16391 = true := by kernel_rfl
theorem agg137 : aggOk Try.prog 137 37 = true := by kernel_rfl
theorem w_append0 {P : Program} {n : Nat} {L : List (Nat × Value)} {a : Act} {w : World} {T : TypeId} {pos : String} {aft : Array Edge} {g : Option (Nat × Bool)} {ops : Array Oper} {Q : Exit → Act → World → Prop} {K : Act → World → Prop}
    {d : Nat} {x y : Operand} {t e size bytes : Nat} {p : Option Addr} {cap : Nat} (hl : Sl n L a) (hd : Nat.blt d n = true) (hg : GuardOk ops L g) (ht : appOk P t e size bytes = true) (hx : val L x = some (.slice none 0 0)) (hy : val L y = some (.slice p 0 cap)) (k : ∀ a', Sl n ((d, .slice none 0 0) :: L) a' → K a' w) :
    OpW P ops Q ⟨some d, .call { callee := .builtin .append, args := #[x, y], argTypes := #[t, t] }, T, pos, aft, g⟩ K a w := by
  obtain ⟨i, z, h1, h2, h3, h4, h5, h6⟩ := appOk_spec ht
  refine wl_val hl hd hg (v := .slice none 0 0) (w' := w) ?_ k
  have hr : (Builtin.append_ #[t, t] T #[.slice none 0 0, .slice p 0 cap]).run P w = .ok (.slice none 0 0) w := by
    cases p <;> simp [Builtin.append_, run_underlying h1, sizeOf, typeInfo, h2, Builtin.lenOf, Builtin.firstCells, loadCells, loadCellsFrom]
  simp [Gives, execOp, resolve, invoke, builtin, hl.ev hx, hl.ev hy, hr]
theorem arrL_all (N : Nat) (f : Nat → Value) : ((arrL N f).drop 0).take N = arrL N f := by
  rw [List.drop_zero, List.take_of_length_le (by rw [arrL_length]; exact Nat.le_refl _)]
theorem setL_all (l l' : List Value) (h : l.length = l'.length) : setL l 0 l' = l' := by
  unfold setL; simp [h]
theorem arrL_one {N : Nat} {f : Nat → Value} (h : ∀ i, (f i).oneCell' = true) : (arrL N f).all (·.oneCell') = true := by
  unfold arrL; rw [List.all_map, List.all_eq_true]; intro i _; exact h i
attribute [local irreducible] encM encP

set_option maxHeartbeats 1000000 in
theorem memClone_spec (b : Nat) (m : MS) : SpK Try.prog 45 #[.pointer (some ⟨b, 0, none⟩)] (fun w => w.heap[b]? = some (C (arrL 16391 (encM m)) 75)) [] (fun v F' => ∃ k, v = .pointer (some ⟨k, 0, none⟩) ∧ F' = [(k, C (arrL 16391 (encM m)) 75)]) := by
  refine f_enter (args := [.pointer (some ⟨b, 0, none⟩)]) Try.func45 rfl Try.ntmps45 rfl ?_
  intro w0 w a hpre hl hh
  have hm : w0.heap[b]? = some (.cells ⟨arrL 16391 (encM m)⟩ 75 (0, 0)) := hpre
  simp only [slotsFrom, Nat.reduceAdd] at hl
  refine c_seq ?_
  refine c_region ?_
  refine wl (wl_val hl rfl trivial (r_assign hl rfl) ?_)
  clear hl a; intro a hl
  refine w_nil ?_
  have hl2 := hl.add (t := 0) (hl.nil) rfl; clear hl; have hl := hl2; clear hl2
  refine then_normal ?_
  refine c_seq ?_
  refine c_region ?_
  refine wl (wl_val hl rfl trivial (r_move hl rfl) ?_)
  clear hl a; intro a hl
  refine wl (wl_val hl rfl trivial (r_nilCheck hl rfl) ?_)
  clear hl a; intro a hl
  first | refine wl (w_loadA hl hh rfl trivial agg75 rfl (by repeat (first | exact find_head | apply find_tail)) (by exact arrL_all _ _) (by rw [arrL_length]) ?_) | refine wl (w_loadRA hl hh rfl trivial agg75 rfl hm (by simp) (arrL_all _ _) (by rw [arrL_length]) ?_)
  clear hl a; intro a hl
  refine wl (w_alloc hl hh rfl trivial zero75 rfl ?_)
  clear hl hh a w; intro k3 a w hl hh
  refine wl (w_storeA hl hh trivial agg75 rfl rfl (by repeat (first | exact find_head | apply find_tail)) (by rw [arrL_length]) (by rw [arrL_length, Nat.zero_add]; exact Nat.le_refl _) (by exact arrL_one (encM_one _)) (by exact setL_all _ _ (by rw [arrL_length, arrL_length])) ?_)
  clear hh w; intro w hh
  refine w_nil ?_
  have hl2 := hl.add (t := 3) (hl.nil) rfl; clear hl; have hl := hl2; clear hl2
  refine then_normal ?_
  refine c_seq ?_
  refine c_region ?_
  refine wl (wl_val hl rfl trivial (r_assign hl rfl) ?_)
  clear hl a; intro a hl
  refine w_nil ?_
  have hl2 := hl.add (t := 2) (hl.nil) rfl; clear hl; have hl := hl2; clear hl2
  refine then_normal ?_
  refine wp_ret ?_
  refine f_ret1 (F' := [(k3, C (arrL 16391 (encM m)) 75)]) hl hh rfl rfl (by repeat (first | exact keeps_nil | apply keeps_cons (by repeat (first | exact find_head | apply find_tail)) (by first  | rfl) | exact keeps_self | apply keeps_mv)) ?_
  exact ⟨k3, rfl, rfl⟩

set_option maxHeartbeats 1000000 in
theorem progClone_spec (qb : Nat) (p : PG) : SpK Try.prog 89 #[.pointer (some ⟨qb, 0, none⟩)] (fun w => w.heap[qb]? = some (C (arrL 37 (encP p)) 137)) [] (fun v F' => ∃ k, v = .iface 129 (.pointer (some ⟨k, 0, none⟩)) ∧ F' = [(k, C (arrL 37 (encP p)) 137)]) := by
  refine f_enter (args := [.pointer (some ⟨qb, 0, none⟩)]) Try.func89 rfl Try.ntmps89 rfl ?_
  intro w0 w a hpre hl hh
  have hm : w0.heap[qb]? = some (.cells ⟨arrL 37 (encP p)⟩ 137 (0, 0)) := hpre
  simp only [slotsFrom, Nat.reduceAdd] at hl
  refine c_seq ?_
  refine c_region ?_
  refine wl (wl_val hl rfl trivial (r_assign hl rfl) ?_)
  clear hl a; intro a hl
  refine w_nil ?_
  have hl2 := hl.add (t := 0) (hl.nil) rfl; clear hl; have hl := hl2; clear hl2
  refine then_normal ?_
  refine c_seq ?_
  refine c_region ?_
  refine wl (wl_val hl rfl trivial (r_move hl rfl) ?_)
  clear hl a; intro a hl
  refine wl (wl_val hl rfl trivial (r_nilCheck hl rfl) ?_)
  clear hl a; intro a hl
  first | refine wl (w_loadA hl hh rfl trivial agg137 rfl (by repeat (first | exact find_head | apply find_tail)) (by exact arrL_all _ _) (by rw [arrL_length]) ?_) | refine wl (w_loadRA hl hh rfl trivial agg137 rfl hm (by simp) (arrL_all _ _) (by rw [arrL_length]) ?_)
  clear hl a; intro a hl
  refine wl (w_alloc hl hh rfl trivial zero137 rfl ?_)
  clear hl hh a w; intro k3 a w hl hh
  refine wl (w_storeA hl hh trivial agg137 rfl rfl (by repeat (first | exact find_head | apply find_tail)) (by rw [arrL_length]) (by show 0 + 37 ≤ _; simp) (by exact arrL_one (encP_one _)) (by exact setL_all _ _ (by rw [arrL_length]; rfl)) ?_)
  clear hh w; intro w hh
  refine w_nil ?_
  have hl2 := hl.add (t := 3) (hl.nil) rfl; clear hl; have hl := hl2; clear hl2
  refine then_normal ?_
  refine c_seq ?_
  refine c_region ?_
  refine wl (wl_val hl rfl trivial (r_makeInterface hl rfl conc129) ?_)
  clear hl a; intro a hl
  refine wl (wl_val hl rfl trivial (r_assign hl rfl) ?_)
  clear hl a; intro a hl
  refine w_nil ?_
  have hl2 := hl.add (t := 2) (hl.nil) rfl; clear hl; have hl := hl2; clear hl2
  refine then_normal ?_
  refine wp_ret ?_
  refine f_ret1 (F' := [(k3, C (arrL 37 (encP p)) 137)]) hl hh rfl rfl (by repeat (first | exact keeps_nil | apply keeps_cons (by repeat (first | exact find_head | apply find_tail)) (by first  | rfl) | exact keeps_self | apply keeps_mv)) ?_
  exact ⟨k3, rfl, rfl⟩
end Go.Proofs.Qxb6500914a

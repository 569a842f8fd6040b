import Derived.Test.Qxb6500913aW2
namespace Go.Proofs.Qxb6500913a
open Go.Eng
set_option linter.unusedVariables false
set_option linter.unusedSimpArgs false
theorem agg87 : aggOk Try.prog 87 20503 = true := by kernel_rfl

def zeroF : Nat → Int := fun _ => 0
set_option maxRecDepth 20000 in
theorem zero87 : zeroOk Try.prog 87 (.agg ⟨encL zeroF⟩) := by unfold zeroOk; kernel_rfl
set_option maxRecDepth 20000 in
theorem shp87 : shapeT Try.prog 8 87 = some kinds87 := by kernel_rfl
theorem eqf87 : eqOk Try.prog 8 87 = true := by kernel_rfl
theorem r_eql87 {n : Nat} {L : List (Nat × Value)} {a : Act} {w : World} {T : TypeId} {pos : String} {aft : Array Edge} {g : Option (Nat × Bool)} {dst : Option Nat} {x y : Operand} {u : TypeId} {f h : Nat → Int} (hl : Sl n L a)
    (hx : val L x = some (.agg ⟨encL f⟩)) (hy : val L y = some (.agg ⟨encL h⟩)) (hf : Wf f) (hg : Wf h) : Gives Try.prog a ⟨dst, .binOp .eql 87 x y u, T, pos, aft, g⟩ w (.bool (same f h)) w := by
  have h1 := r_eqlA (P := Try.prog) (w := w) (T := T) (pos := pos) (aft := aft) (g := g) (dst := dst) (u := u) (xs := encL f) (ys := encL h) (lx := litsL f) (ly := litsL h) (s := kinds87) (m := 8) (d := 8) (t := 87) hl hx hy eqf87 shp87 (unlit_encL f) (unlit_encL h) (lits_ok f hf) (lits_ok h hg)
  unfold same
  exact h1


set_option maxHeartbeats 1000000 in
theorem clone_spec (b : Nat) (f : Nat → Int) : Sp Try.prog 25 #[.pointer (some ⟨b, 0, none⟩)] [(b, C (encL f) 87)] (fun v F' => ∃ k, v = .pointer (some ⟨k, 0, none⟩) ∧ F' = [(k, C (encL f) 87), (b, C (encL f) 87)]) := by
  refine f_enter (args := [.pointer (some ⟨b, 0, none⟩)]) Try.func25 rfl Try.ntmps25 rfl ?_
  intro w0 w a hpre hl hh
  simp only [slotsFrom, Nat.reduceAdd] at hl
  refine c_seq ?_
  refine c_region ?_
  refine wl (wl_val hl rfl trivial (r_assign hl rfl) ?_)
  clear hl a; intro a hl
  refine w_nil ?_
  have hl2 := hl.add (t := 0) (hl.nil) rfl; clear hl; have hl := hl2; clear hl2
  refine then_normal ?_
  refine c_seq ?_
  refine c_region ?_
  refine wl (wl_val hl rfl trivial (r_move hl rfl) ?_)
  clear hl a; intro a hl
  refine wl (wl_val hl rfl trivial (r_nilCheck hl rfl) ?_)
  clear hl a; intro a hl
  refine wl (w_loadA hl hh rfl trivial agg87 rfl (by repeat (first | exact find_head | apply find_tail)) (by exact cell_all _) (by exact encL_length _) ?_)
  clear hl a; intro a hl
  refine wl (w_alloc hl hh rfl trivial zero87 rfl ?_)
  clear hl hh a w; intro k3 a w hl hh
  refine wl (w_storeA hl hh trivial agg87 rfl rfl (by repeat (first | exact find_head | apply find_tail)) (by exact encL_length _) (by rw [encL_length]; omega) (by exact encL_one _) (by exact st_all _ _) ?_)
  clear hh w; intro w hh
  refine w_nil ?_
  have hl2 := hl.add (t := 3) (hl.nil) rfl; clear hl; have hl := hl2; clear hl2
  refine then_normal ?_
  refine c_seq ?_
  refine c_region ?_
  refine wl (wl_val hl rfl trivial (r_assign hl rfl) ?_)
  clear hl a; intro a hl
  refine w_nil ?_
  have hl2 := hl.add (t := 2) (hl.nil) rfl; clear hl; have hl := hl2; clear hl2
  refine then_normal ?_
  refine wp_ret ?_
  refine f_ret1 (F' := [(k3, C (encL f) 87), (b, C (encL f) 87)]) hl hh rfl rfl (by repeat (first | exact keeps_nil | apply keeps_cons (by repeat (first | exact find_head | apply find_tail)) (by first  | rfl) | exact keeps_self | apply keeps_mv)) ?_
  exact ⟨_, rfl, rfl⟩

set_option maxHeartbeats 1000000 in
theorem equal_spec (b c : Nat) (f g : Nat → Int) (hf : Wf f) (hg : Wf g) : Sp Try.prog 26 #[.pointer (some ⟨b, 0, none⟩), .pointer (some ⟨c, 0, none⟩)] [(b, C (encL f) 87), (c, C (encL g) 87)] (fun v F' => v = .bool (same f g) ∧ F' = [(b, C (encL f) 87), (c, C (encL g) 87)]) := by
  refine f_enter (args := [.pointer (some ⟨b, 0, none⟩), .pointer (some ⟨c, 0, none⟩)]) Try.func26 rfl Try.ntmps26 rfl ?_
  intro w0 w a hpre hl hh
  simp only [slotsFrom, Nat.reduceAdd] at hl
  refine c_seq ?_
  refine c_region ?_
  refine wl (wl_val hl rfl trivial (r_assign hl rfl) ?_)
  clear hl a; intro a hl
  refine w_nil ?_
  have hl2 := hl.add (t := 0) (hl.add (t := 1) (hl.nil) rfl) rfl; clear hl; have hl := hl2; clear hl2
  refine then_normal ?_
  refine c_seq ?_
  refine c_draw [(b, C (encL f) 87), (c, C (encL g) 87)] [6, 7] mixed hh ?_
  clear hh w; intro w hh
  have hM : Mem [(b, C (encL f) 87), (c, C (encL g) 87)] w := (by repeat (first | exact Mem.nil | refine Mem.cons hh.mem (by repeat (first | exact find_head | apply find_tail)) ?_ | refine Mem.consR hh (by assumption) (by simp) ?_))
  refine d_take (i := 0) hl rfl (by kernel_rfl) (by kernel_rfl) (by kernel_rfl) (by kernel_rfl) (by kernel_rfl) rfl trivial (fun _ _ _ h => h) hM (fun w hC => r_move hl rfl) rfl ?_
  clear hl a; intro a hl
  refine d_take (i := 1) hl rfl (by kernel_rfl) (by kernel_rfl) (by kernel_rfl) (by kernel_rfl) (by kernel_rfl) rfl trivial (fun _ _ _ h => h) hM (fun w hC => r_nilCheck hl rfl) rfl ?_
  clear hl a; intro a hl
  refine d_take (i := 2) hl rfl (by kernel_rfl) (by kernel_rfl) (by kernel_rfl) (by kernel_rfl) (by kernel_rfl) rfl trivial (fun _ _ _ h => h) hM (fun w hC => r_loadCA hl rfl agg87 hC (by repeat (first | exact find_head | apply find_tail)) (by exact cell_all _) (by exact encL_length _)) rfl ?_
  clear hl a; intro a hl
  refine d_take (i := 3) hl rfl (by kernel_rfl) (by kernel_rfl) (by kernel_rfl) (by kernel_rfl) (by kernel_rfl) rfl trivial (fun _ _ _ h => h) hM (fun w hC => r_move hl rfl) rfl ?_
  clear hl a; intro a hl
  refine d_take (i := 4) hl rfl (by kernel_rfl) (by kernel_rfl) (by kernel_rfl) (by kernel_rfl) (by kernel_rfl) rfl trivial (fun _ _ _ h => h) hM (fun w hC => r_nilCheck hl rfl) rfl ?_
  clear hl a; intro a hl
  refine d_take (i := 5) hl rfl (by kernel_rfl) (by kernel_rfl) (by kernel_rfl) (by kernel_rfl) (by kernel_rfl) rfl trivial (fun _ _ _ h => h) hM (fun w hC => r_loadCA hl rfl agg87 hC (by repeat (first | exact find_head | apply find_tail)) (by exact cell_all _) (by exact encL_length _)) rfl ?_
  clear hl a; intro a hl
  refine d_takeL (i := 6) hl rfl (by kernel_rfl) (by kernel_rfl) (by kernel_rfl) (by kernel_rfl) (by kernel_rfl) rfl trivial (fun _ _ _ h => h) (fun w => r_eql87 hl rfl rfl (by assumption) (by assumption)) rfl ?_
  clear hl a; intro a hl
  refine d_takeL (i := 7) hl rfl (by kernel_rfl) (by kernel_rfl) (by kernel_rfl) (by kernel_rfl) (by kernel_rfl) rfl trivial (fun _ _ _ h => h) (fun w => r_assign hl rfl) rfl ?_
  clear hl a; intro a hl
  refine d_done (by kernel_rfl) ?_
  try clear hM
  have hl2 := hl.add (t := 4) (hl.nil) rfl; clear hl; have hl := hl2; clear hl2
  refine then_normal ?_
  refine wp_ret ?_
  refine f_ret1 (F' := [(b, C (encL f) 87), (c, C (encL g) 87)]) hl hh rfl rfl (by repeat (first | exact keeps_nil | apply keeps_cons (by repeat (first | exact find_head | apply find_tail)) (by first  | rfl) | exact keeps_self | apply keeps_mv)) ?_
  exact ⟨rfl, rfl⟩
end Go.Proofs.Qxb6500913a

import Derived.Test.Qxb6500914aGreatH9
namespace Go.Proofs.Qxb6500914aGreat
open Go.Eng
set_option linter.unusedVariables false
set_option linter.unusedSimpArgs false
theorem zero47 : zeroOk Tryz.prog 47 (.agg #[(.slice none 0 0), (.slice none 0 0), (.slice none 0 0), (.slice none 0 0), (.slice none 0 0), (.slice none 0 0), (.map none)]) := by unfold zeroOk; kernel_rfl
theorem bld47 : buildOk Tryz.prog 47 [(0, 6), (6, 1)] = true := by kernel_rfl
theorem agg47 : aggOk Tryz.prog 47 7 = true := by kernel_rfl
theorem bld49 : buildOk Tryz.prog 49 [(0, 1), (1, 1), (2, 1), (3, 1), (4, 1), (5, 1)] = true := by kernel_rfl
theorem bld53 : buildOk Tryz.prog 53 [(0, 1), (1, 1), (2, 1)] = true := by kernel_rfl
theorem from_spec {k : Bool} {H : Nat → List Rec} (hH : HGood k H) {sv : Nat → Value} {ES : Nat → List (Nat × Obj)} (hHR : HR sv H ES) {sb mb : Nat} (hsbm : sb ≠ mb) (hESm : ∀ t, t < 6 → ∀ x, x ∈ ES t → x.1 ≠ mb) (n : Nat) : FromSpec k H sv ES sb mb n := by
  induction n using Nat.strongRecOn with
  | ind n ih =>
    intro d N A v Z l h1 h2 h3 h4 h5 h6
    obtain ⟨x1, x2, x3, rfl, hx⟩ := h4.three
    exact from_walk k H hH sv ES hHR sb mb hsbm hESm n ih d N A x1 x2 x3 hx Z l h1 h2 h3 h4 h5 h6
theorem mu_zero {k : Bool} {H : Nat → List Rec} {n : Nat} (h : HOk k n H) : mu H (fun _ => 0) ≤ n := h.len
theorem list6 (f : Nat → Value) : arrL 6 f = [f 0, f 1, f 2, f 3, f 4, f 5] := by unfold arrL; rfl
theorem from0 {k : Bool} {H : Nat → List Rec} (hH : HGood k H) (hc : Cmp k H (fun _ => 0) []) {sv : Nat → Value} {ES : Nat → List (Nat × Obj)} (hHR : HR sv H ES) {sb mb : Nat} (hsbm : sb ≠ mb) (hESm : ∀ t, t < 6 → ∀ x, x ∈ ES t → x.1 ≠ mb) :
    SpK Tryz.prog 15 #[.pointer (some ⟨sb, 0, none⟩), .agg ⟨[.int .i64 0, .int .i64 0, .int .i64 0, .int .i64 0, .int .i64 0, .int .i64 0]⟩, .agg ⟨[.slice none 0 0, .slice none 0 0, .int .i64 0]⟩] (fun w => w.heap[sb]? = some (C [sv 0, sv 1, sv 2, sv 3, sv 4, sv 5, .map (some mb)] 47) ∧ ∀ t, t < 6 → Mem (ES t) w) [(mb, MO kStr [])] (fun u F' => u = .bool true) := by
  obtain ⟨n, hn, hk⟩ := hH.ok
  have := from_spec hH hHR hsbm hESm _ (fun _ => 0) 0 [] _ [] [] rfl (by have := mu_zero hk; omega) (fun t _ => Nat.le_refl _) (StR.start k) (fun key v h => by cases h) (fun x hx => by cases hx)
  rw [list6] at this
  intro w h1 h2 h3
  refine (this w ⟨⟨?_, h1.2⟩, fun b o m => by cases m⟩ h2 h3).mono ?_
  · rw [list6]; exact h1.1
  · intro e w' hq
    cases e with
    | returned u =>
      obtain ⟨F', ⟨b, l', rfl, hb, _, rfl⟩, hh⟩ := hq
      refine ⟨_, ?_, hh⟩
      cases b with
      | true => rfl
      | false => exact absurd hc (hb rfl)
    | _ => exact hq.elim
theorem fresh_ne2 {w0 w : World} {F Sc G : List (Nat × Obj)} {b : Nat} {o : Obj} {x : Nat × Obj} (hh : Has [] w0 F w) (hm : Mem Sc w0) (hx : x ∈ Sc) (hf : Find F b o G) : x.1 ≠ b := fresh_ne hh (hm x.1 x.2 hx) hf.mem
theorem ne_of_has {D : List Nat} {w0 w : World} {L G : List (Nat × Obj)} {a b : Nat} {o o' : Obj} (hh : Has D w0 L w) (hk : Keeps L [(a, o), (b, o')] G) : a ≠ b := by
  have hn := (hh.keep hk).nodup
  simp at hn
  exact hn


set_option maxHeartbeats 4000000 in
theorem linearizes_spec (k : Bool) (H : Nat → List Rec) (hH : HGood k H) (hc : Cmp k H (fun _ => 0) []) (sv : Nat → Value) (ES : Nat → List (Nat × Obj)) (hHR : HR sv H ES) : SpK Tryz.prog 8 #[.agg ⟨[sv 0, sv 1, sv 2, sv 3, sv 4, sv 5]⟩] (fun w => ∀ t, t < 6 → Mem (ES t) w) [] (fun u F' => u = .bool true ∧ F' = []) := by
  refine f_enter (args := [.agg ⟨[sv 0, sv 1, sv 2, sv 3, sv 4, sv 5]⟩]) Tryz.func8 rfl Tryz.ntmps8 rfl ?_
  intro w0 w a hpre hl hh
  have o0 := (hHR 0 (by omega)).one; have o1 := (hHR 1 (by omega)).one; have o2 := (hHR 2 (by omega)).one; have o3 := (hHR 3 (by omega)).one; have o4 := (hHR 4 (by omega)).one; have o5 := (hHR 5 (by omega)).one
  have hall : ([sv 0, sv 1, sv 2, sv 3, sv 4, sv 5] : List Value).all (·.oneCell') = true := by simp [o0, o1, o2, o3, o4, o5]
  simp only [slotsFrom, Nat.reduceAdd] at hl
  refine c_seq ?_
  refine c_region ?_
  refine wl (w_box hl hh rfl trivial rfl rfl ?_)
  clear hl hh a w; intro k1 a w hl hh
  refine wl (wl_val hl rfl trivial (r_assign hl rfl) ?_)
  clear hl a; intro a hl
  refine w_nil ?_
  have hl2 := hl.add (t := 1) (hl.nil) rfl; clear hl; have hl := hl2; clear hl2
  refine then_normal ?_
  refine c_seq ?_
  refine c_region ?_
  refine wl (w_loadA hl hh rfl trivial agg29 rfl (by repeat (first | exact find_head | apply find_tail)) (by first | (simp only [List.getElem?_cons_zero, List.getElem?_cons_succ, Value.cells, List.take_zero, List.take_succ_cons, List.take_nil, List.drop_zero, List.drop_succ_cons, List.drop_nil, List.length_cons, List.length_nil, List.cons_append, List.nil_append, List.append_nil, Nat.zero_add, Nat.add_zero, Nat.reduceAdd, Nat.reduceBEq, Nat.reduceEqDiff, Nat.ble, BEq.rfl, Bool.and_true, Bool.and_self, cond_true, beq_self_eq_true]; rfl)) (by first | rfl | (simp; done)) ?_)
  clear hl a; intro a hl
  refine wl (w_makeMap kStr hl hh rfl trivial ?_)
  clear hl hh a w; intro k5 a w hl hh
  refine wl (wl_val hl rfl trivial (r_build hl rfl zero47 bld47 (by simp only [fillL, setL, List.getElem?_cons_zero, List.getElem?_cons_succ, Value.cells, List.take_zero, List.take_succ_cons, List.take_nil, List.drop_zero, List.drop_succ_cons, List.drop_nil, List.length_cons, List.length_nil, List.cons_append, List.nil_append, List.append_nil, Nat.zero_add, Nat.add_zero, Nat.reduceAdd, Nat.reduceBEq, Nat.reduceEqDiff, Nat.ble, BEq.rfl, Bool.and_true, Bool.and_self, cond_true, beq_self_eq_true]; rfl)) ?_)
  clear hl a; intro a hl
  refine wl (w_alloc hl hh rfl trivial zero47 rfl ?_)
  clear hl hh a w; intro k3 a w hl hh
  refine wl (w_storeA hl hh trivial agg47 rfl rfl (by repeat (first | exact find_head | apply find_tail)) (by first | rfl | (simp; done)) (by first | (simp; done) | (simp; omega)) (by first | rfl | (simp; done) | exact hall | (simp only [List.all_cons, o0, o1, o2, o3, o4, o5]; rfl)) (by first | (simp only [setL, List.getElem?_cons_zero, List.getElem?_cons_succ, Value.cells, List.take_zero, List.take_succ_cons, List.take_nil, List.drop_zero, List.drop_succ_cons, List.drop_nil, List.length_cons, List.length_nil, List.cons_append, List.nil_append, List.append_nil, Nat.zero_add, Nat.add_zero, Nat.reduceAdd, Nat.reduceBEq, Nat.reduceEqDiff, Nat.ble, BEq.rfl, Bool.and_true, Bool.and_self, cond_true, beq_self_eq_true]; rfl)) ?_)
  clear hh w; intro w hh
  refine w_nil ?_
  have hl2 := hl.add (t := 3) (hl.nil) rfl; clear hl; have hl := hl2; clear hl2
  have hne : k3 ≠ k5 := ne_of_has hh (by repeat (first | exact keeps_nil | apply keeps_cons (by repeat (first | exact find_head | apply find_tail)) (by first  | rfl) | exact keeps_self | exact keeps_left | exact keeps_right | exact keeps_swap | apply keeps_mv))
  refine then_normal ?_
  refine c_seq ?_
  refine c_region ?_
  refine wl (wl_val hl rfl trivial (r_build hl rfl zero49 bld49 (by simp only [fillL, setL, List.getElem?_cons_zero, List.getElem?_cons_succ, Value.cells, List.take_zero, List.take_succ_cons, List.take_nil, List.drop_zero, List.drop_succ_cons, List.drop_nil, List.length_cons, List.length_nil, List.cons_append, List.nil_append, List.append_nil, Nat.zero_add, Nat.add_zero, Nat.reduceAdd, Nat.reduceBEq, Nat.reduceEqDiff, Nat.ble, BEq.rfl, Bool.and_true, Bool.and_self, cond_true, beq_self_eq_true]; rfl)) ?_)
  clear hl a; intro a hl
  refine wl (wl_val hl rfl trivial (r_build hl rfl zero53 bld53 (by simp only [fillL, setL, List.getElem?_cons_zero, List.getElem?_cons_succ, Value.cells, List.take_zero, List.take_succ_cons, List.take_nil, List.drop_zero, List.drop_succ_cons, List.drop_nil, List.length_cons, List.length_nil, List.cons_append, List.nil_append, List.append_nil, Nat.zero_add, Nat.add_zero, Nat.reduceAdd, Nat.reduceBEq, Nat.reduceEqDiff, Nat.ble, BEq.rfl, Bool.and_true, Bool.and_self, cond_true, beq_self_eq_true]; rfl)) ?_)
  clear hl a; intro a hl
  refine wl (w_call hl hh rfl trivial rfl cal15 rfl (from0 hH hc hHR (sb := k3) (mb := k5) hne (fun t ht x hx => fresh_ne2 hh (hpre t ht) hx (by repeat (first | exact find_head | apply find_tail)))) (by repeat (first | exact keeps_nil | apply keeps_cons (by repeat (first | exact find_head | apply find_tail)) (by first  | rfl) | exact keeps_self | exact keeps_left | exact keeps_right | exact keeps_swap | apply keeps_mv)) ⟨hh.mem _ _ (Find.mem (by repeat (first | exact find_head | apply find_tail))), fun t ht => mem_keep hh (hpre t ht)⟩ ?_)
  clear hl hh a w; intro vc Fc a w hR hl hh
  obtain rfl := hR
  try simp only [List.cons_append, List.nil_append] at hh
  refine wl (wl_val hl rfl trivial (r_assign hl rfl) ?_)
  clear hl a; intro a hl
  refine w_nil ?_
  have hl2 := hl.add (t := 2) (hl.nil) rfl; clear hl; have hl := hl2; clear hl2
  refine then_normal ?_
  refine wp_ret ?_
  refine f_ret1 (F' := []) hl hh rfl rfl (by repeat (first | exact keeps_nil | apply keeps_cons (by repeat (first | exact find_head | apply find_tail)) (by first  | rfl) | exact keeps_self | exact keeps_left | exact keeps_right | exact keeps_swap | apply keeps_mv)) ?_
  exact ⟨rfl, rfl⟩
end Go.Proofs.Qxb6500914aGreat

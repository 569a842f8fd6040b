import Derived.Test.Qxb6500915aGreatDoorE1
namespace Go.Proofs.Qxb6500915aGreatDoor
open Go.Eng
set_option linter.unusedVariables false
set_option linter.unusedSimpArgs false
theorem cal63 : callable Tryz.prog 63 = true := by kernel_rfl
theorem sp_mono {P : Program} {f : FuncId} {args : Array Value} {F : List (Nat × Obj)} {R R' : Value → List (Nat × Obj) → Prop} (h : Sp P f args F R) (hm : ∀ v G, R v G → R' v G) : Sp P f args F R' := by
  intro w hp hM hn
  refine (h w hp hM hn).mono fun e W' hq => ?_
  cases e with
  | returned v =>
    obtain ⟨F', h1, h2⟩ := hq
    exact ⟨F', hm _ _ h1, h2⟩
  | _ => exact hq.elim

set_option maxHeartbeats 1000000 in
theorem sort0_spec (p : Option Addr) (c : Nat) (E : List (Nat × Obj)) : Sp Tryz.prog 63 #[.slice p 0 c, .func (.func 64) #[] #[]] E (fun v F' => v = .tuple #[] ∧ F' = E) := by
  refine f_enter (args := [.slice p 0 c, .func (.func 64) #[] #[]]) Tryz.func63 rfl Tryz.ntmps63 rfl ?_
  intro w0 w a hpre hl hh
  simp only [slotsFrom, Nat.reduceAdd] at hl
  refine c_seq ?_
  refine c_region ?_
  refine wl (wl_val hl rfl trivial (r_assign hl rfl) ?_)
  clear hl a; intro a hl
  refine w_nil ?_
  have hl2 := hl.add (t := 0) (hl.add (t := 1) (hl.add (t := 4) (hl.nil) rfl) rfl) rfl; clear hl; have hl := hl2; clear hl2
  refine then_normal ?_
  refine wp_block ?_
  obtain ⟨KS0, hKS0, hk⟩ := (hl.add (t := 0) (hl.add (t := 1) (hl.nil) rfl) rfl).name
  obtain ⟨HS0, hHS0, hh2⟩ := hh.nameT (A := []) (U := E) ((by repeat (first | exact keeps_nil | exact keeps_self | exact keeps_swap | apply keeps_mv)))
  refine c_loop (α := Nat) (fun z => 0 - z) (fun z a w => (True) ∧ Sl 46 ([(4, .int .i64 1)] ++ KS0) a ∧ Has _ w0 ([] ++ (HS0 ++ E)) w) 0 ⟨trivial, hl.addE (t := 4) (hk) rfl (by first | rfl), hh2⟩ ?_
  clear hk hh2 hl hh a w
  intro z a w hI
  obtain ⟨_, hl, hh⟩ := hI
  subst hKS0; subst hHS0
  simp only [List.cons_append, List.nil_append, List.append_nil] at hl hh
  refine c_seq ?_
  refine c_seq ?_
  refine c_region ?_
  refine wl (wl_val hl rfl trivial (r_move hl rfl) ?_)
  clear hl a; intro a hl
  refine wl (wl_val hl rfl trivial (r_move hl rfl) ?_)
  clear hl a; intro a hl
  refine wl (wl_val hl rfl trivial (r_lenS hl rfl slc31) ?_)
  clear hl a; intro a hl
  refine wl (wl_val hl rfl trivial (r_lss hl rfl rfl) ?_)
  clear hl a; intro a hl
  refine w_nil ?_
  have hl2 := hl.add (t := 0) (hl.add (t := 1) (hl.add (t := 4) (hl.add (t := 9) (hl.nil) rfl) rfl) rfl) rfl; clear hl; have hl := hl2; clear hl2
  refine then_normal ?_
  refine c_cond hl rfl ?_ ?_
  · intro hc0
    try simp only [decide_eq_true_eq, decide_eq_false_iff_not, Bool.not_eq_true', Bool.not_eq_false', Bool.not_eq_true, Bool.not_eq_false, Bool.and_eq_true, Bool.or_eq_true, Bool.and_eq_false_iff, Bool.or_eq_false_iff, Bool.not_not, ne_eq, Int.not_lt, Int.not_le, Decidable.not_not, beq_iff_eq, bne_iff_ne] at hc0
    exfalso; omega
  · intro hc0
    try simp only [decide_eq_true_eq, decide_eq_false_iff_not, Bool.not_eq_true', Bool.not_eq_false', Bool.not_eq_true, Bool.not_eq_false, Bool.and_eq_true, Bool.or_eq_true, Bool.and_eq_false_iff, Bool.or_eq_false_iff, Bool.not_not, ne_eq, Int.not_lt, Int.not_le, Decidable.not_not, beq_iff_eq, bne_iff_ne] at hc0
    refine wp_exit ?_
    refine then_exit ?_
    refine then_exit ?_
    refine blk_exit ?_
    refine f_end0 (F' := E) hl hh rfl (by repeat (first | exact keeps_nil | apply keeps_cons (by repeat (first | exact find_head | apply find_tail)) (by first  | rfl) | exact keeps_self | exact keeps_left | exact keeps_right | exact keeps_swap | apply keeps_mv)) ?_
    exact ⟨rfl, rfl⟩

set_option maxHeartbeats 1000000 in
theorem sorted_spec (tb mb : Nat) (ps : List Pd) (hpl : ps.length ≤ 10000000) (pp : Option Addr) (pc : Nat) (pE : List (Nat × Obj)) (hP : Row (.slice pp ps.length pc) ps.length (fl pdc ps) 3 93 pE) : SpK Tryz.prog 28 #[.pointer (some ⟨tb, 0, none⟩)] (fun w => w.heap[tb]? = some (C [.map (some mb), .slice pp ps.length pc] 111) ∧ Mem pE w) [] (fun v F' => ∃ l p c, l.Perm ps ∧ l.Pairwise leP ∧ v = .slice p l.length c ∧ Row (.slice p l.length c) l.length (fl pdc l) 3 93 F') := by
  refine f_enter (args := [.pointer (some ⟨tb, 0, none⟩)]) Tryz.func28 rfl Tryz.ntmps28 rfl ?_
  intro w0 w a hpre hl hh
  simp only [slotsFrom, Nat.reduceAdd] at hl
  refine c_seq ?_
  refine c_region ?_
  refine wl (wl_val hl rfl trivial (r_assign hl rfl) ?_)
  clear hl a; intro a hl
  refine w_nil ?_
  have hl2 := hl.add (t := 0) (hl.nil) rfl; clear hl; have hl := hl2; clear hl2
  refine then_normal ?_
  refine c_seq ?_
  refine c_region ?_
  refine wl (wl_val hl rfl trivial (r_move hl rfl) ?_)
  clear hl a; intro a hl
  refine wl (wl_val hl rfl trivial (r_nilCheck hl rfl) ?_)
  clear hl a; intro a hl
  refine wl (wl_val hl rfl trivial (r_field hl rfl fld111_1) ?_)
  clear hl a; intro a hl
  first | refine wl (w_load hl hh rfl trivial one31 rfl (by repeat (first | exact find_head | apply find_tail)) (by first | rfl) ?_) | refine wl (w_loadR hl hh rfl trivial one31 rfl hpre.1 (by simp) rfl ?_)
  clear hl a; intro a hl
  refine wl (w_appendG hl hh rfl trivial app31 rfl rfl rfl (Row.nil _ _) (by repeat (first | exact keeps_nil | apply keeps_cons (by repeat (first | exact find_head | apply find_tail)) (by first  | rfl) | exact keeps_self | exact keeps_left | exact keeps_right | exact keeps_swap | apply keeps_mv)) (VwG.of hP) (mem_keep hh hpre.2) (fl_one1 pdc_one ps) (by omega) (by omega) (by decide) ?_)
  clear hl hh a w; intro rv2 E2 a w hR2 hl hh
  have hh3 := hh.comm; clear hh; have hh := hh3; clear hh3
  simp only [List.cons_append, List.nil_append] at hh
  refine wl (wl_val hl rfl trivial (r_assign hl rfl) ?_)
  clear hl a; intro a hl
  refine w_nil ?_
  have hl2 := hl.add (t := 3) (hl.nil) rfl; clear hl; have hl := hl2; clear hl2
  obtain ⟨p9, c9, hv9⟩ := row_val hR2
  rw [Nat.zero_add, List.nil_append] at hR2
  rw [Nat.zero_add] at hv9
  subst hv9
  generalize E2 = E9 at hh hR2
  have hso : Sp Tryz.prog 63 #[.slice p9 ps.length c9, .func (.func 64) #[] #[]] E9 (fun v F' => v = .tuple #[] ∧ ∃ l', l'.Perm ps ∧ l'.Pairwise leP ∧ Row (.slice p9 l'.length c9) l'.length (fl pdc l') 3 93 F') := by
    by_cases h0 : 0 < ps.length
    · exact sortP_spec ps p9 c9 E9 hR2 h0 (by omega)
    · have h1 : ps = [] := List.eq_nil_of_length_eq_zero (by omega)
      subst h1
      exact sp_mono (sort0_spec p9 c9 E9) (fun v F9 h9 => ⟨h9.1, [], List.Perm.refl _, List.Pairwise.nil, by rw [h9.2]; exact hR2⟩)
  refine then_normal ?_
  refine c_seq ?_
  refine c_region ?_
  refine wl (wl_val hl rfl trivial (r_move hl rfl) ?_)
  clear hl a; intro a hl
  refine wl (w_call hl hh rfl trivial rfl cal63 rfl (hso) (by repeat (first | exact keeps_nil | apply keeps_cons (by repeat (first | exact find_head | apply find_tail)) (by first  | rfl) | exact keeps_self | exact keeps_left | exact keeps_right | exact keeps_swap | apply keeps_mv)) trivial ?_)
  clear hl hh a w; intro vc Fc a w hR hl hh
  obtain ⟨rfl, l, hl1, hl2, hl3⟩ := hR
  try simp only [List.cons_append, List.nil_append] at hh
  generalize Fc = Eq at hh hl3
  rw [← hl1.length_eq] at hl
  refine w_nil ?_
  have hl2 := hl.add (t := 3) (hl.nil) rfl; clear hl; have hl := hl2; clear hl2
  refine then_normal ?_
  refine c_seq ?_
  refine c_region ?_
  refine wl (wl_val hl rfl trivial (r_move hl rfl) ?_)
  clear hl a; intro a hl
  refine wl (wl_val hl rfl trivial (r_assign hl rfl) ?_)
  clear hl a; intro a hl
  refine w_nil ?_
  have hl2 := hl.add (t := 2) (hl.nil) rfl; clear hl; have hl := hl2; clear hl2
  refine then_normal ?_
  refine wp_ret ?_
  refine f_ret1 (F' := Eq) hl hh rfl rfl (by repeat (first | exact keeps_nil | apply keeps_cons (by repeat (first | exact find_head | apply find_tail)) (by first  | rfl) | exact keeps_self | exact keeps_left | exact keeps_right | exact keeps_swap | apply keeps_mv)) ?_
  exact ⟨l, p9, c9, hl1, hl2, rfl, hl3⟩
end Go.Proofs.Qxb6500915aGreatDoor

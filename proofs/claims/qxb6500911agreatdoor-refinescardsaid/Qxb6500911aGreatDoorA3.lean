import Derived.Test.Qxb6500911aGreatDoorA2
import Derived.Test.Qxb6500911aGreatDoorByt
namespace Go.Proofs.Qxb6500911aGreatDoor
open Go.Eng
set_option linter.unusedVariables false
set_option linter.unusedSimpArgs false
theorem slcT108 : slcT Tryz.prog 108 = true := by kernel_rfl
theorem slcT48 : slcT Tryz.prog 48 = true := by kernel_rfl
theorem slcT88 : slcT Tryz.prog 88 = true := by kernel_rfl
theorem spk_weak0 {P : Program} {f : FuncId} {args : Array Value} {Pre Pre' : World → Prop} {F : List (Nat × Obj)} {R : Value → List (Nat × Obj) → Prop} (h : SpK P f args Pre F R) (hp : ∀ w, Pre' w → Pre w) : SpK P f args Pre' F R := fun w h1 h2 h3 => h w (hp w h1) h2 h3

set_option maxHeartbeats 1000000 in
theorem clBN : Sp Tryz.prog 59 #[.slice none 0 0] [] (fun v F' => Row v 0 [] 7 77 F') := by
  refine f_enter (args := [.slice none 0 0]) Tryz.func59 rfl Tryz.ntmps59 rfl ?_
  intro w0 w a hpre hl hh
  simp only [slotsFrom, Nat.reduceAdd] at hl
  refine c_seq ?_
  refine c_region ?_
  refine wl (wl_val hl rfl trivial (r_assign hl rfl) ?_)
  clear hl a; intro a hl
  refine w_nil ?_
  have hl2 := hl.add (t := 0) (hl.nil) rfl; clear hl; have hl := hl2; clear hl2
  refine then_normal ?_
  refine c_seq ?_
  refine c_seq ?_
  refine c_region ?_
  refine wl (wl_val hl rfl trivial (r_move hl rfl) ?_)
  clear hl a; intro a hl
  refine wl (wl_val hl rfl trivial (r_eql_slcN hl rfl rfl slcT48) ?_)
  clear hl a; intro a hl
  refine w_nil ?_
  have hl2 := hl.add (t := 0) (hl.add (t := 4) (hl.nil) rfl) rfl; clear hl; have hl := hl2; clear hl2
  refine then_normal ?_
  refine c_cond hl rfl ?_ ?_
  · intro hc0
    try simp only [decide_eq_true_eq, decide_eq_false_iff_not, Bool.not_eq_true', Bool.not_eq_false', Bool.not_eq_true, Bool.not_eq_false, Bool.and_eq_true, Bool.or_eq_true, Bool.and_eq_false_iff, Bool.or_eq_false_iff, Bool.not_not, ne_eq, Int.not_lt, Int.not_le, Decidable.not_not, beq_iff_eq, bne_iff_ne] at hc0
    refine c_seq ?_
    refine c_region ?_
    refine wl (wl_val hl rfl trivial (r_assign hl rfl) ?_)
    clear hl a; intro a hl
    refine w_nil ?_
    have hl2 := hl.add (t := 2) (hl.nil) rfl; clear hl; have hl := hl2; clear hl2
    refine then_normal ?_
    refine wp_ret ?_
    refine then_ret ?_
    refine f_ret1 (F' := []) hl hh rfl rfl (by repeat (first | exact keeps_nil | apply keeps_cons (by repeat (first | exact find_head | apply find_tail)) (by first  | rfl) | exact keeps_self | apply keeps_mv)) ?_
    exact Row.nil _ _
  · intro hc0
    try simp only [decide_eq_true_eq, decide_eq_false_iff_not, Bool.not_eq_true', Bool.not_eq_false', Bool.not_eq_true, Bool.not_eq_false, Bool.and_eq_true, Bool.or_eq_true, Bool.and_eq_false_iff, Bool.or_eq_false_iff, Bool.not_not, ne_eq, Int.not_lt, Int.not_le, Decidable.not_not, beq_iff_eq, bne_iff_ne] at hc0
    exfalso; first | exact Bool.noConfusion (show true = false by assumption) | exact Bool.noConfusion (show false = true by assumption) | contradiction

set_option maxHeartbeats 1000000 in
theorem clBB (l : List Ms) (hl9 : l.length ≤ 100000000) (b c : Nat) (junk : List Value) : SpK Tryz.prog 59 #[.slice (some ⟨b, 0, none⟩) l.length c] (fun w => w.heap[b]? = some (C (fl msc l ++ junk) 77)) [] (fun v F' => Row v l.length (fl msc l) 7 77 F') := by
  refine f_enter (args := [.slice (some ⟨b, 0, none⟩) l.length c]) Tryz.func59 rfl Tryz.ntmps59 rfl ?_
  intro w0 w a hpre hl hh
  simp only [slotsFrom, Nat.reduceAdd] at hl
  refine c_seq ?_
  refine c_region ?_
  refine wl (wl_val hl rfl trivial (r_assign hl rfl) ?_)
  clear hl a; intro a hl
  refine w_nil ?_
  have hl2 := hl.add (t := 0) (hl.nil) rfl; clear hl; have hl := hl2; clear hl2
  refine then_normal ?_
  refine c_seq ?_
  refine c_seq ?_
  refine c_region ?_
  refine wl (wl_val hl rfl trivial (r_move hl rfl) ?_)
  clear hl a; intro a hl
  refine wl (wl_val hl rfl trivial (r_eql_slcN hl rfl rfl slcT48) ?_)
  clear hl a; intro a hl
  refine w_nil ?_
  have hl2 := hl.add (t := 0) (hl.add (t := 4) (hl.nil) rfl) rfl; clear hl; have hl := hl2; clear hl2
  refine then_normal ?_
  refine c_cond hl rfl ?_ ?_
  · intro hc0
    try simp only [decide_eq_true_eq, decide_eq_false_iff_not, Bool.not_eq_true', Bool.not_eq_false', Bool.not_eq_true, Bool.not_eq_false, Bool.and_eq_true, Bool.or_eq_true, Bool.and_eq_false_iff, Bool.or_eq_false_iff, Bool.not_not, ne_eq, Int.not_lt, Int.not_le, Decidable.not_not, beq_iff_eq, bne_iff_ne] at hc0
    exfalso; first | exact Bool.noConfusion (show true = false by assumption) | exact Bool.noConfusion (show false = true by assumption) | contradiction
  · intro hc0
    try simp only [decide_eq_true_eq, decide_eq_false_iff_not, Bool.not_eq_true', Bool.not_eq_false', Bool.not_eq_true, Bool.not_eq_false, Bool.and_eq_true, Bool.or_eq_true, Bool.and_eq_false_iff, Bool.or_eq_false_iff, Bool.not_not, ne_eq, Int.not_lt, Int.not_le, Decidable.not_not, beq_iff_eq, bne_iff_ne] at hc0
    refine wp_skip ?_
    refine then_normal ?_
    refine c_seq ?_
    refine c_region ?_
    refine wl (w_buildSlice0 hl hh rfl trivial app48 ?_)
    clear hl hh a w; intro k5 a w hl hh
    refine wl (wl_val hl rfl trivial (r_move hl rfl) ?_)
    clear hl a; intro a hl
    refine wl (w_appendRow hl hh rfl trivial app48 rfl rfl rfl (.inr ⟨k5, 0, [], rfl, rfl, rfl, Nat.le_refl _, rfl⟩) (by repeat (first | exact keeps_nil | apply keeps_cons (by repeat (first | exact find_head | apply find_tail)) (by first  | rfl) | exact keeps_self | exact keeps_left | exact keeps_right | exact keeps_swap | apply keeps_mv)) (heap_keep hh hpre) (fl_len msc_len l) (fl_all msc_one l) (by omega) (by omega) (by decide) ?_)
    clear hl hh a w; intro rv2 E2 a w hR2 hl hh
    have hh3 := hh.comm; clear hh; have hh := hh3; clear hh3
    simp only [List.cons_append, List.nil_append] at hh
    refine wl (wl_val hl rfl trivial (r_assign hl rfl) ?_)
    clear hl a; intro a hl
    refine w_nil ?_
    have hl2 := hl.add (t := 2) (hl.nil) rfl; clear hl; have hl := hl2; clear hl2
    refine then_normal ?_
    refine wp_ret ?_
    refine f_ret1 (F' := E2) hl hh rfl rfl (by repeat (first | exact keeps_nil | apply keeps_cons (by repeat (first | exact find_head | apply find_tail)) (by first  | rfl) | exact keeps_self | exact keeps_left | exact keeps_right | exact keeps_swap | apply keeps_mv)) ?_
    exact hR2

theorem clB_spec (l : List Ms) (hl9 : l.length ≤ 100000000) (p : Option Addr) (c : Nat) (E : List (Nat × Obj)) (hR : Row (.slice p l.length c) l.length (fl msc l) 7 77 E) : SpK Tryz.prog 59 #[.slice p l.length c] (Mem E) [] (fun v F' => Row v l.length (fl msc l) 7 77 F') := by
  rcases hR with ⟨h1, h2, h3, rfl⟩ | ⟨b, cap, junk, h1, h2, h3, h4, rfl⟩
  · injection h1 with e1 e2 e3
    subst e1; subst e3
    rw [h2, h3]
    exact spk_weak0 clBN (fun w h => trivial)
  · injection h1 with e1 e2 e3
    subst e1; subst e3
    exact spk_weak0 (clBB l hl9 b c junk) (fun w h => h _ _ (List.mem_singleton.2 rfl))

end Go.Proofs.Qxb6500911aGreatDoor

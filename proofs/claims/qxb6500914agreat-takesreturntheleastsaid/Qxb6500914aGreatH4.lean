import Derived.Test.Qxb6500914aGreatH3
import Derived.Test.Qxb6500914aGreatUmd
import Derived.Test.Qxb6500914aGreatByt
import Derived.Test.Qxb6500914aGreatMap
namespace Go.Proofs.Qxb6500914aGreat
open Go.Eng
set_option linter.unusedVariables false
set_option linter.unusedSimpArgs false
theorem app122 : appOk Tryz.prog 122 5 1 1 = true := by kernel_rfl
theorem zero5 : zeroOk Tryz.prog 5 (.int .u8 0) := by unfold zeroOk; kernel_rfl
/-! ## one step of the model -/
theorem mStep_spec {k : Bool} {N : Nat} {A : List (Int × Int)} {v : Value} {Z : List (Nat × Obj)} (h : StR k N A v Z) (hN : N ≤ 2000000) {ck cv cp : Int} (hin : inK k ck) (hcv : InR cv) (hcp : InR cp) (h0 : k = false → cp = 0) :
    SpK Tryz.prog 31 #[v, .agg ⟨[.int .u8 ck, .int .u64 cv, .int .u64 cp]⟩] (Mem Z) [] (StepPost k N A ck cv cp Z) := by
  cases h with
  | dq N A Z dv hz ho hv =>
    obtain ⟨p, c, rfl⟩ := hv.sl
    have e0 := h0 rfl
    subst e0
    have hck : 0 ≤ ck ∧ ck ≤ 3 := hin
    rcases (show ck = 0 ∨ ck = 1 ∨ ck = 2 ∨ ck = 3 by omega) with e | e | e | e
    · subst e; exact stepD0 N A Z cv hcv hz ho p c hv
    · subst e; exact stepD1 N A Z cv hcv hz ho p c hv
    · subst e
      cases A with
      | nil =>
        rcases hv with ⟨_, _, p', c', e, hp⟩ | ⟨_, _, _, _, _, h1, _⟩
        · cases e; exact stepDe2 N Z cv p c hp
        · exact absurd h1 (by simp)
      | cons x B =>
        obtain ⟨b9, o9, c9, l9, T9, e, h3, h4, h5, _⟩ := hv.blk (by simp)
        cases e
        exact stepDp2 N B x Z cv hz ho b9 o9 _ l9 T9 h4 h5 h3
    · subst e
      rcases List.eq_nil_or_concat A with rfl | ⟨B, x, rfl⟩
      · rcases hv with ⟨_, _, p', c', e, hp⟩ | ⟨_, _, _, _, _, h1, _⟩
        · cases e; exact stepDe3 N Z cv p c hp
        · exact absurd h1 (by simp)
      · rw [List.concat_eq_append] at hv hz ho ⊢
        obtain ⟨b9, o9, c9, l9, T9, e, h3, h4, h5, _⟩ := hv.blk (by simp)
        cases e
        rw [List.length_append, List.length_singleton] at h3 ⊢
        exact stepDp3 N B x Z cv hz ho b9 o9 _ l9 T9 h4 h5 h3
  | bf N A Z bv es ar hb ho hv =>
    obtain ⟨p, c, rfl⟩ := hv.sl
    obtain rfl := hb.A
    have hck : 4 ≤ ck ∧ ck ≤ 7 := hin
    by_cases h4 : ck = 4
    · subst h4; exact stepB4 N hN es ar Z cv cp hb ho hcv hcp p c hv
    · cases es with
      | nil =>
        rcases hv with ⟨_, _, p', c', e, hp⟩ | ⟨_, _, _, _, _, h1, _⟩
        · cases e
          rcases (show ck = 5 ∨ ck = 6 ∨ ck = 7 by omega) with e | e | e
          · subst e; exact stepBe5 N ar hb.le Z cv cp p c hp
          · subst e; exact stepBe6 N ar hb.le Z cv cp p c hp
          · subst e; exact stepBe7 N ar hb.le Z cv cp p c hp
        · exact absurd h1 (by simp)
      | cons x B =>
        obtain ⟨b9, o9, c9, l9, T9, e, h3, hZ, h5, _⟩ := hv.blk (by simp)
        cases e
        rcases (show ck = 5 ∨ ck = 6 ∨ ck = 7 by omega) with e | e | e
        · subst e; exact stepBt5 N hN _ ar Z cv cp hb ho b9 o9 _ l9 T9 hZ h5 h3 (by simp)
        · subst e; exact stepBt6 N hN _ ar Z cv cp hb ho b9 o9 _ l9 T9 hZ h5 h3 (by simp)
        · subst e; exact stepBt7 N hN _ ar Z cv cp hb ho b9 o9 _ l9 T9 hZ h5 h3 (by simp)
/-! ## bytes of a number -/
def sh8 (x : Int) (j : Int) : Int := (x.fdiv (2 ^ (min j.toNat IntKind.u64.bits))) % 256
def le8 (x : Int) : List Value := [.int .u8 (x % 256), .int .u8 (sh8 x 8), .int .u8 (sh8 x 16), .int .u8 (sh8 x 24), .int .u8 (sh8 x 32), .int .u8 (sh8 x 40), .int .u8 (sh8 x 48), .int .u8 (sh8 x 56)]
theorem le8_len (x : Int) : (le8 x).length = 8 := rfl
theorem le8_u8 (x : Int) : ∀ v, v ∈ le8 x → ∃ y : Int, v = .int .u8 y := by
  intro v hv
  simp only [le8, List.mem_cons, List.not_mem_nil, or_false] at hv
  rcases hv with rfl | rfl | rfl | rfl | rfl | rfl | rfl | rfl <;> exact ⟨_, rfl⟩


set_option maxHeartbeats 2000000 in
theorem ap64_spec (x : Int) (bv : Value) (n : Nat) (hn : n ≤ 100000) (xs : List Value) (E : List (Nat × Obj)) (hR : Row bv n xs 1 5 E) : Sp Tryz.prog 43 #[.agg ⟨[]⟩, bv, .int .u64 x] E (fun v F' => Row v (n + 8) (xs ++ le8 x) 1 5 F') := by
  refine f_enter (args := [.agg ⟨[]⟩, bv, .int .u64 x]) Tryz.func43 rfl Tryz.ntmps43 rfl ?_
  intro w0 w a hpre hl hh
  simp only [slotsFrom, Nat.reduceAdd] at hl
  refine c_seq ?_
  refine c_region ?_
  refine wl (w_box hl hh rfl trivial rfl rfl ?_)
  clear hl hh a w; intro k3 a w hl hh
  refine wl (wl_val hl rfl trivial (r_assign hl rfl) ?_)
  clear hl a; intro a hl
  refine w_nil ?_
  have hl2 := hl.add (t := 1) (hl.add (t := 2) (hl.nil) rfl) rfl; clear hl; have hl := hl2; clear hl2
  refine then_normal ?_
  refine c_seq ?_
  refine c_region ?_
  refine wl (wl_val hl rfl trivial (r_move hl rfl) ?_)
  clear hl a; intro a hl
  refine wl (wl_val hl rfl trivial (r_move hl rfl) ?_)
  clear hl a; intro a hl
  first | refine wl (wl_val hl rfl trivial (r_conv hl rfl Tryz.underlying37 Tryz.underlying5 (by simp only [Fits]; omega)) ?_) | refine wl (wl_val hl rfl trivial (r_convM wm_u8 hl rfl Tryz.underlying37 Tryz.underlying5) ?_)
  clear hl a; intro a hl
  refine wl (wl_val hl rfl trivial (r_move hl rfl) ?_)
  clear hl a; intro a hl
  refine wl (wl_val hl rfl trivial (r_shr hl rfl rfl (by omega)) ?_)
  clear hl a; intro a hl
  first | refine wl (wl_val hl rfl trivial (r_conv hl rfl Tryz.underlying37 Tryz.underlying5 (by simp only [Fits]; omega)) ?_) | refine wl (wl_val hl rfl trivial (r_convM wm_u8 hl rfl Tryz.underlying37 Tryz.underlying5) ?_)
  clear hl a; intro a hl
  refine wl (wl_val hl rfl trivial (r_move hl rfl) ?_)
  clear hl a; intro a hl
  refine wl (wl_val hl rfl trivial (r_shr hl rfl rfl (by omega)) ?_)
  clear hl a; intro a hl
  first | refine wl (wl_val hl rfl trivial (r_conv hl rfl Tryz.underlying37 Tryz.underlying5 (by simp only [Fits]; omega)) ?_) | refine wl (wl_val hl rfl trivial (r_convM wm_u8 hl rfl Tryz.underlying37 Tryz.underlying5) ?_)
  clear hl a; intro a hl
  refine wl (wl_val hl rfl trivial (r_move hl rfl) ?_)
  clear hl a; intro a hl
  refine wl (wl_val hl rfl trivial (r_shr hl rfl rfl (by omega)) ?_)
  clear hl a; intro a hl
  first | refine wl (wl_val hl rfl trivial (r_conv hl rfl Tryz.underlying37 Tryz.underlying5 (by simp only [Fits]; omega)) ?_) | refine wl (wl_val hl rfl trivial (r_convM wm_u8 hl rfl Tryz.underlying37 Tryz.underlying5) ?_)
  clear hl a; intro a hl
  refine wl (wl_val hl rfl trivial (r_move hl rfl) ?_)
  clear hl a; intro a hl
  refine wl (wl_val hl rfl trivial (r_shr hl rfl rfl (by omega)) ?_)
  clear hl a; intro a hl
  first | refine wl (wl_val hl rfl trivial (r_conv hl rfl Tryz.underlying37 Tryz.underlying5 (by simp only [Fits]; omega)) ?_) | refine wl (wl_val hl rfl trivial (r_convM wm_u8 hl rfl Tryz.underlying37 Tryz.underlying5) ?_)
  clear hl a; intro a hl
  refine wl (wl_val hl rfl trivial (r_move hl rfl) ?_)
  clear hl a; intro a hl
  refine wl (wl_val hl rfl trivial (r_shr hl rfl rfl (by omega)) ?_)
  clear hl a; intro a hl
  first | refine wl (wl_val hl rfl trivial (r_conv hl rfl Tryz.underlying37 Tryz.underlying5 (by simp only [Fits]; omega)) ?_) | refine wl (wl_val hl rfl trivial (r_convM wm_u8 hl rfl Tryz.underlying37 Tryz.underlying5) ?_)
  clear hl a; intro a hl
  refine wl (wl_val hl rfl trivial (r_move hl rfl) ?_)
  clear hl a; intro a hl
  refine wl (wl_val hl rfl trivial (r_shr hl rfl rfl (by omega)) ?_)
  clear hl a; intro a hl
  first | refine wl (wl_val hl rfl trivial (r_conv hl rfl Tryz.underlying37 Tryz.underlying5 (by simp only [Fits]; omega)) ?_) | refine wl (wl_val hl rfl trivial (r_convM wm_u8 hl rfl Tryz.underlying37 Tryz.underlying5) ?_)
  clear hl a; intro a hl
  refine wl (wl_val hl rfl trivial (r_move hl rfl) ?_)
  clear hl a; intro a hl
  refine wl (wl_val hl rfl trivial (r_shr hl rfl rfl (by omega)) ?_)
  clear hl a; intro a hl
  first | refine wl (wl_val hl rfl trivial (r_conv hl rfl Tryz.underlying37 Tryz.underlying5 (by simp only [Fits]; omega)) ?_) | refine wl (wl_val hl rfl trivial (r_convM wm_u8 hl rfl Tryz.underlying37 Tryz.underlying5) ?_)
  clear hl a; intro a hl
  refine wl (w_buildSlice hl hh rfl trivial app122 zero5 rfl rfl rfl rfl rfl (by simp only [fillL, arrPl, List.range_succ, List.range_zero, List.map_cons, List.map_nil, List.map_append, List.nil_append, List.replicate_succ, List.replicate_zero, List.flatten_cons, List.flatten_nil, Nat.zero_mul, Nat.mul_one, Nat.one_mul, Nat.reduceMul, setL, List.getElem?_cons_zero, List.getElem?_cons_succ, Value.cells, List.take_zero, List.take_succ_cons, List.take_nil, List.drop_zero, List.drop_succ_cons, List.drop_nil, List.length_cons, List.length_nil, List.cons_append, List.nil_append, List.append_nil, Nat.zero_add, Nat.add_zero, Nat.reduceAdd, Nat.reduceBEq, Nat.reduceEqDiff, Nat.ble, BEq.rfl, Bool.and_true, Bool.and_self, cond_true, beq_self_eq_true]; rfl) ?_)
  clear hl hh a w; intro k31 a w hl hh
  refine wl (w_append (news := (le8 x)) hl hh rfl trivial app122 rfl rfl rfl hR (by repeat (first | exact keeps_nil | apply keeps_cons (by repeat (first | exact find_head | apply find_tail)) (by first  | rfl) | exact keeps_self | exact keeps_left | exact keeps_right | exact keeps_swap | apply keeps_mv)) (hh.mem _ _ (Find.mem (by repeat (first | exact find_head | apply find_tail)))) rfl rfl rfl (by omega) (by omega) (by omega) (by decide) ?_)
  clear hl hh a w; intro rv2 E2 a w hR2 hl hh
  have hh3 := hh.comm; clear hh; have hh := hh3; clear hh3
  simp only [List.cons_append, List.nil_append] at hh
  refine wl (wl_val hl rfl trivial (r_assign hl rfl) ?_)
  clear hl a; intro a hl
  refine w_nil ?_
  have hl2 := hl.add (t := 6) (hl.nil) rfl; clear hl; have hl := hl2; clear hl2
  refine then_normal ?_
  refine wp_ret ?_
  refine f_ret1 (F' := E2) hl hh rfl rfl (by repeat (first | exact keeps_nil | apply keeps_cons (by repeat (first | exact find_head | apply find_tail)) (by first  | rfl) | exact keeps_self | exact keeps_left | exact keeps_right | exact keeps_swap | apply keeps_mv)) ?_
  exact hR2
end Go.Proofs.Qxb6500914aGreat

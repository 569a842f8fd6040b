import Derived.Test.Qxb6500908aGreatW4
namespace Go.Proofs.Qxb6500908aGreat
open Go.Eng
set_option linter.unusedVariables false
set_option linter.unusedSimpArgs false
theorem fld127_1 : fieldOk Tryz.prog 127 1 1 = true := by kernel_rfl
theorem fld89_0 : fieldOk Tryz.prog 89 0 0 = true := by kernel_rfl
theorem one36 : oneOk Tryz.prog 36 = true := by kernel_rfl
theorem fld89_3 : fieldOk Tryz.prog 89 3 3 = true := by kernel_rfl
theorem fld87_0 : fieldOk Tryz.prog 87 0 0 = true := by kernel_rfl
theorem zero38 : zeroOk Tryz.prog 38 (.agg #[(.int .u8 0), (.int .u8 0), (.int .u32 0), (.int .u32 0), (.bool false), (.int .u32 0), (.int .u32 0), (.string ⟨#[]⟩)]) := by unfold zeroOk; kernel_rfl
theorem bld38 : buildOk Tryz.prog 38 [(0, 1), (1, 1), (2, 1), (3, 1), (4, 1), (5, 1), (6, 1), (7, 1)] = true := by kernel_rfl
theorem agg38 : aggOk Tryz.prog 38 8 = true := by kernel_rfl
theorem fld127_4 : fieldOk Tryz.prog 127 4 73 = true := by kernel_rfl
theorem arr125 : arrOk Tryz.prog 125 16 1 = true := by kernel_rfl
theorem fld38_7 : fieldOk Tryz.prog 38 7 7 = true := by kernel_rfl
theorem fld127_9 : fieldOk Tryz.prog 127 9 93 = true := by kernel_rfl
theorem one53 : oneOk Tryz.prog 53 = true := by kernel_rfl
theorem app53 : appOk Tryz.prog 53 38 8 40 = true := by kernel_rfl
/-- a message about the batch in flight -/
def mkP (st : StP) (sl : Nat → ByteArray) (k : Int) (d : Nat) : Ms := ⟨k, (d : Int), st.ep, st.fid, false, 0, 0, if k = 0 then sl d else ⟨#[]⟩⟩
def bitIn (x : Int) (d : Nat) : Bool := !decide (bitsOf .and .u16 x (sh1 (d : Int)) = 0)
/-- what a device is told -/
def psh1 (g : GtP) (d : Nat) : List Ms :=
  if g.st.ph = 1 then (if bitIn g.ys d then [] else [mkP g.st g.sl 0 d])
  else if g.st.ph = 2 ∨ g.st.ph = 3 then (if bitIn g.dn d then [] else mkP g.st g.sl (if g.st.ph = 2 then 1 else 2) d :: (if g.au then [mkP g.st g.sl 3 d] else []))
  else []
def pushP (g : GtP) : List Ms := (List.range 16).flatMap (psh1 g)
theorem psh1_len (g : GtP) (d : Nat) : (psh1 g d).length ≤ 2 := by
  unfold psh1
  split
  · split <;> simp
  · split
    · split
      · simp
      · rw [List.length_cons]; split <;> simp
    · simp
theorem fm_range (g : GtP) (i : Nat) : (List.range (i + 1)).flatMap (psh1 g) = (List.range i).flatMap (psh1 g) ++ psh1 g i := by
  rw [List.range_succ, List.flatMap_append]; simp
theorem fm_len (g : GtP) : ∀ i, ((List.range i).flatMap (psh1 g)).length ≤ 2 * i
  | 0 => by simp
  | i + 1 => by rw [fm_range, List.length_append]; have := fm_len g i; have := psh1_len g i; omega
theorem mk_ok {st : StP} {sl : Nat → ByteArray} {k : Int} {d : Nat} (h1 : 0 ≤ st.ep ∧ st.ep ≤ 4294967295) (h2 : 0 ≤ st.fid ∧ st.fid ≤ 4294967295) (hk : 0 ≤ k ∧ k ≤ 255) (hd : d < 16) : (mkP st sl k d).ok := ⟨hk, by show 0 ≤ (d : Int) ∧ (d : Int) ≤ 255; omega, h1, h2, by simp [mkP], by simp [mkP]⟩
theorem psh1_ok {g : GtP} {d : Nat} (h1 : 0 ≤ g.st.ep ∧ g.st.ep ≤ 4294967295) (h2 : 0 ≤ g.st.fid ∧ g.st.fid ≤ 4294967295) (hd : d < 16) : ∀ x, x ∈ psh1 g d → x.ok := by
  intro x hx
  unfold psh1 at hx
  split at hx
  · split at hx
    · cases hx
    · rw [List.mem_singleton.1 hx]; exact mk_ok h1 h2 (by omega) hd
  · split at hx
    · split at hx
      · cases hx
      · rcases List.mem_cons.1 hx with h | h
        · rw [h]; exact mk_ok h1 h2 (by split <;> omega) hd
        · split at h
          · rw [List.mem_singleton.1 h]; exact mk_ok h1 h2 (by omega) hd
          · cases h
    · cases hx
theorem push_ok {g : GtP} (h1 : 0 ≤ g.st.ep ∧ g.st.ep ≤ 4294967295) (h2 : 0 ≤ g.st.fid ∧ g.st.fid ≤ 4294967295) : ∀ x, x ∈ pushP g → x.ok := by
  intro x hx
  obtain ⟨d, hd, h⟩ := List.mem_flatMap.1 hx
  exact psh1_ok h1 h2 (List.mem_range.1 hd) x h
structure PuS where
  i : Nat
  p : Option Addr
  c : Nat
  E : List (Nat × Obj)
def puO (g : GtV) (s : PuS) : List Ms := g.out ++ (List.range s.i).flatMap (psh1 g.pl)
theorem puO_next {g : GtV} {s : PuS} {l : List Ms} (h : psh1 g.pl s.i = l) (p : Option Addr) (c : Nat) (E : List (Nat × Obj)) : puO g ⟨s.i + 1, p, c, E⟩ = puO g s ++ l := by
  unfold puO; simp only; rw [fm_range, h, List.append_assoc]
section pss
variable {g : GtP} {d : Nat}
theorem ps_p1 (h : g.st.ph = 1) (hb : bitsOf .and .u16 g.ys (sh1 (d : Int)) = 0) : psh1 g d = [mkP g.st g.sl 0 d] := by
  unfold psh1 bitIn; rw [if_pos h, decide_eq_true hb]; rfl
theorem ps_p0 (h : g.st.ph = 1) (hb : ¬ bitsOf .and .u16 g.ys (sh1 (d : Int)) = 0) : psh1 g d = [] := by
  unfold psh1 bitIn; rw [if_pos h, decide_eq_false hb]; rfl
theorem ps_n (h1 : ¬ g.st.ph = 1) (h : ¬ (g.st.ph = 2 ∨ g.st.ph = 3)) : psh1 g d = [] := by
  unfold psh1; rw [if_neg h1, if_neg h]
theorem ps_d (h : g.st.ph = 2 ∨ g.st.ph = 3) (hb : ¬ bitsOf .and .u16 g.dn (sh1 (d : Int)) = 0) : psh1 g d = [] := by
  unfold psh1 bitIn; rw [if_neg (by omega), if_pos h, decide_eq_false hb]; rfl
theorem ps_t (h : g.st.ph = 2 ∨ g.st.ph = 3) (hb : bitsOf .and .u16 g.dn (sh1 (d : Int)) = 0) {k : Int} (hk : (if g.st.ph = 2 then 1 else 2) = k) (ha : g.au = true) : psh1 g d = [mkP g.st g.sl k d, mkP g.st g.sl 3 d] := by
  unfold psh1 bitIn; rw [if_neg (by omega), if_pos h, decide_eq_true hb, hk, ha]; rfl
theorem ps_o (h : g.st.ph = 2 ∨ g.st.ph = 3) (hb : bitsOf .and .u16 g.dn (sh1 (d : Int)) = 0) {k : Int} (hk : (if g.st.ph = 2 then 1 else 2) = k) (ha : g.au = false) : psh1 g d = [mkP g.st g.sl k d] := by
  unfold psh1 bitIn; rw [if_neg (by omega), if_pos h, decide_eq_true hb, hk, ha]; rfl
end pss


attribute [local irreducible] NtV.k StV.c LdV.c StV.E GtV.c GtV.t

set_option maxHeartbeats 4000000 in
theorem send_spec (gb : Nat) (g : GtV) (hR : Row (.slice g.op g.out.length g.oc) g.out.length (fl msc g.out) 8 38 g.oE) (hol : g.out.length ≤ 100) (k : Int) (hk : 0 ≤ k ∧ k ≤ 255) (d : Nat) (hd : d < 16) : Sp Tryz.prog 42 #[.pointer (some ⟨gb, 0, none⟩), .int .u8 k, .int .i64 (d : Int)] ((gb, C g.c 127) :: g.oE) (fun v F' => v = .tuple #[] ∧ ∃ p c E, Row (.slice p (g.out ++ [mkP g.st.pl g.sl k d]).length c) (g.out ++ [mkP g.st.pl g.sl k d]).length (fl msc (g.out ++ [mkP g.st.pl g.sl k d])) 8 38 E ∧ F' = (gb, C (GtV.c { g with op := p, out := g.out ++ [mkP g.st.pl g.sl k d], oc := c, oE := E }) 127) :: E) := by
  refine f_enter (args := [.pointer (some ⟨gb, 0, none⟩), .int .u8 k, .int .i64 (d : Int)]) Tryz.func42 rfl Tryz.ntmps42 rfl ?_
  intro w0 w a hpre hl hh
  generalize hDD : List.map Prod.fst ((gb, C g.c 127) :: g.oE) = D at hh ⊢
  simp only [slotsFrom, Nat.reduceAdd] at hl
  refine c_seq ?_
  refine c_draw [(gb, C (GtV.c g) 127)] [16] mixed hh ?_
  clear hh w; intro w hh
  have hM : Mem [(gb, C (GtV.c g) 127)] w := (memK hh (by repeat (first | exact keeps_nil | apply keeps_cons (by repeat (first | exact find_head | apply find_tail | apply find_skip)) (by first  | rfl) | exact keeps_self | exact keeps_left | apply keeps_app | apply keeps_mv | apply keeps_skip)))
  refine d_take (i := 0) hl rfl (by kernel_rfl) (by kernel_rfl) (by kernel_rfl) (by kernel_rfl) (by kernel_rfl) rfl trivial (fun _ _ _ h => h) hM (fun w hC => r_move hl rfl) rfl ?_
  clear hl a; intro a hl
  refine d_take (i := 1) hl rfl (by kernel_rfl) (by kernel_rfl) (by kernel_rfl) (by kernel_rfl) (by kernel_rfl) rfl trivial (fun _ _ _ h => h) hM (fun w hC => r_move hl rfl) rfl ?_
  clear hl a; intro a hl
  first | refine d_take (i := 2) hl rfl (by kernel_rfl) (by kernel_rfl) (by kernel_rfl) (by kernel_rfl) (by kernel_rfl) rfl trivial (fun _ _ _ h => h) hM (fun w hC => r_conv hl rfl Tryz.underlying3 Tryz.underlying5 (by simp only [Fits]; omega)) rfl ?_ | refine d_take (i := 2) hl rfl (by kernel_rfl) (by kernel_rfl) (by kernel_rfl) (by kernel_rfl) (by kernel_rfl) rfl trivial (fun _ _ _ h => h) hM (fun w hC => r_convW hl rfl Tryz.underlying3 Tryz.underlying5) rfl ?_
  clear hl a; intro a hl
  refine d_take (i := 3) hl rfl (by kernel_rfl) (by kernel_rfl) (by kernel_rfl) (by kernel_rfl) (by kernel_rfl) rfl trivial (fun _ _ _ h => h) hM (fun w hC => r_move hl rfl) rfl ?_
  clear hl a; intro a hl
  refine d_take (i := 4) hl rfl (by kernel_rfl) (by kernel_rfl) (by kernel_rfl) (by kernel_rfl) (by kernel_rfl) rfl trivial (fun _ _ _ h => h) hM (fun w hC => r_nilCheck hl rfl) rfl ?_
  clear hl a; intro a hl
  refine d_take (i := 5) hl rfl (by kernel_rfl) (by kernel_rfl) (by kernel_rfl) (by kernel_rfl) (by kernel_rfl) rfl trivial (fun _ _ _ h => h) hM (fun w hC => r_field hl rfl fld127_1) rfl ?_
  clear hl a; intro a hl
  refine d_take (i := 6) hl rfl (by kernel_rfl) (by kernel_rfl) (by kernel_rfl) (by kernel_rfl) (by kernel_rfl) rfl trivial (fun _ _ _ h => h) hM (fun w hC => r_field hl rfl fld89_0) rfl ?_
  clear hl a; intro a hl
  refine d_take (i := 7) hl rfl (by kernel_rfl) (by kernel_rfl) (by kernel_rfl) (by kernel_rfl) (by kernel_rfl) rfl trivial (fun _ _ _ h => h) hM (fun w hC => r_loadC hl rfl one36 hC (by repeat (first | exact find_head | apply find_tail | apply find_skip)) (by first | exact gtc_led _ | exact gtc_ep _ | exact gtc_vs _ | exact gtc_is _ | exact gtc_fid _ | exact gtc_ph _ | exact gtc_vd _ | exact gtc_q _ | exact gtc_rf _ | exact gtc_ys _ | exact gtc_dn _ | exact gtc_tk _ | exact gtc_au _ | exact gtc_o _ | exact gtc_off _ | exact gtc_sl _ hd | rfl)) rfl ?_
  clear hl a; intro a hl
  refine d_take (i := 8) hl rfl (by kernel_rfl) (by kernel_rfl) (by kernel_rfl) (by kernel_rfl) (by kernel_rfl) rfl trivial (fun _ _ _ h => h) hM (fun w hC => r_move hl rfl) rfl ?_
  clear hl a; intro a hl
  refine d_take (i := 9) hl rfl (by kernel_rfl) (by kernel_rfl) (by kernel_rfl) (by kernel_rfl) (by kernel_rfl) rfl trivial (fun _ _ _ h => h) hM (fun w hC => r_nilCheck hl rfl) rfl ?_
  clear hl a; intro a hl
  refine d_take (i := 10) hl rfl (by kernel_rfl) (by kernel_rfl) (by kernel_rfl) (by kernel_rfl) (by kernel_rfl) rfl trivial (fun _ _ _ h => h) hM (fun w hC => r_field hl rfl fld127_1) rfl ?_
  clear hl a; intro a hl
  refine d_take (i := 11) hl rfl (by kernel_rfl) (by kernel_rfl) (by kernel_rfl) (by kernel_rfl) (by kernel_rfl) rfl trivial (fun _ _ _ h => h) hM (fun w hC => r_field hl rfl fld89_3) rfl ?_
  clear hl a; intro a hl
  refine d_take (i := 12) hl rfl (by kernel_rfl) (by kernel_rfl) (by kernel_rfl) (by kernel_rfl) (by kernel_rfl) rfl trivial (fun _ _ _ h => h) hM (fun w hC => r_field hl rfl fld87_0) rfl ?_
  clear hl a; intro a hl
  refine d_take (i := 13) hl rfl (by kernel_rfl) (by kernel_rfl) (by kernel_rfl) (by kernel_rfl) (by kernel_rfl) rfl trivial (fun _ _ _ h => h) hM (fun w hC => r_loadC hl rfl one36 hC (by repeat (first | exact find_head | apply find_tail | apply find_skip)) (by first | exact gtc_led _ | exact gtc_ep _ | exact gtc_vs _ | exact gtc_is _ | exact gtc_fid _ | exact gtc_ph _ | exact gtc_vd _ | exact gtc_q _ | exact gtc_rf _ | exact gtc_ys _ | exact gtc_dn _ | exact gtc_tk _ | exact gtc_au _ | exact gtc_o _ | exact gtc_off _ | exact gtc_sl _ hd | rfl)) rfl ?_
  clear hl a; intro a hl
  refine d_take (i := 14) hl rfl (by kernel_rfl) (by kernel_rfl) (by kernel_rfl) (by kernel_rfl) (by kernel_rfl) rfl trivial (fun _ _ _ h => h) hM (fun w hC => r_build hl rfl zero38 bld38 (by simp only [fillL, setL, List.getElem?_cons_zero, List.getElem?_cons_succ, Value.cells, List.take_zero, List.take_succ_cons, List.take_nil, List.drop_zero, List.drop_succ_cons, List.drop_nil, List.length_cons, List.length_nil, List.cons_append, List.nil_append, List.append_nil, Nat.zero_add, Nat.add_zero, Nat.reduceAdd, Nat.reduceBEq, Nat.reduceEqDiff, Nat.ble, BEq.rfl, Bool.and_true, Bool.and_self, cond_true, beq_self_eq_true]; rfl)) rfl ?_
  clear hl a; intro a hl
  refine d_one (i := 15) (by kernel_rfl) rfl ?_
  try clear hM
  refine id (w_alloc hl hh rfl trivial zero38 rfl ?_)
  clear hl hh a w; intro k6 a w hl hh
  have hM : Mem [(gb, C (GtV.c g) 127)] w := (memK hh (by repeat (first | exact keeps_nil | apply keeps_cons (by repeat (first | exact find_head | apply find_tail | apply find_skip)) (by first  | rfl) | exact keeps_self | exact keeps_left | apply keeps_app | apply keeps_mv | apply keeps_skip)))
  refine d_step (fun _ => hM) ?_
  refine d_one (i := 16) (by kernel_rfl) rfl ?_
  try clear hM
  refine id (w_storeA hl hh trivial agg38 rfl rfl (by repeat (first | exact find_head | apply find_tail | apply find_skip)) (by first | rfl | (simp; done) | rfl) (by first | (simp; done) | (simp; omega) | (rw [gtc_len]; omega) | (rw [gtc_len]; simp; done)) (by first | rfl | (simp; done) | rfl) (by first | exact gtc_sys _ _ | exact gtc_sdn _ _ | exact gtc_stk _ _ | exact gtc_sau _ _ | exact gtc_soff _ _ | exact gtc_so _ _ _ _ E2 | (simp only [setL, List.getElem?_cons_zero, List.getElem?_cons_succ, Value.cells, List.take_zero, List.take_succ_cons, List.take_nil, List.drop_zero, List.drop_succ_cons, List.drop_nil, List.length_cons, List.length_nil, List.cons_append, List.nil_append, List.append_nil, Nat.zero_add, Nat.add_zero, Nat.reduceAdd, Nat.reduceBEq, Nat.reduceEqDiff, Nat.ble, BEq.rfl, Bool.and_true, Bool.and_self, cond_true, beq_self_eq_true]; rfl)) ?_)
  clear hh w; intro w hh
  refine d_step (fun h => absurd h (by decide)) ?_
  refine d_done (by kernel_rfl) ?_
  try clear hM
  have hl2 := hl.add (t := 0) (hl.add (t := 1) (hl.add (t := 2) (hl.add (t := 6) (hl.nil) rfl) rfl) rfl) rfl; clear hl; have hl := hl2; clear hl2
  refine then_normal ?_
  refine c_seq ?_
  refine c_seq ?_
  refine c_region ?_
  refine wl (wl_val hl rfl trivial (r_move hl rfl) ?_)
  clear hl a; intro a hl
  refine wl (wl_val hl rfl trivial (r_eql hl rfl rfl) ?_)
  clear hl a; intro a hl
  refine w_nil ?_
  have hl2 := hl.add (t := 0) (hl.add (t := 2) (hl.add (t := 6) (hl.add (t := 23) (hl.nil) rfl) rfl) rfl) rfl; clear hl; have hl := hl2; clear hl2
  refine then_normal ?_
  refine c_cond hl rfl ?_ ?_
  · intro hc0
    try simp only [decide_eq_true_eq, decide_eq_false_iff_not, Bool.not_eq_true', Bool.not_eq_false', Bool.not_eq_true, Bool.not_eq_false, Bool.and_eq_true, Bool.or_eq_true, Bool.and_eq_false_iff, Bool.or_eq_false_iff, Bool.not_not, ne_eq, Int.not_lt, Int.not_le, Decidable.not_not, beq_iff_eq, bne_iff_ne] at hc0
    have hms : msc (mkP g.st.pl g.sl k d) = [.int .u8 k, .int .u8 (d : Int), .int .u32 g.st.ep, .int .u32 g.st.fid, .bool false, .int .u32 0, .int .u32 0, .string (g.sl d)] := by unfold mkP msc; simp only; rw [if_pos hc0]; rfl
    refine c_region ?_
    refine wl (wl_val hl rfl trivial (r_move hl rfl) ?_)
    clear hl a; intro a hl
    refine wl (wl_val hl rfl trivial (r_move hl rfl) ?_)
    clear hl a; intro a hl
    refine wl (wl_val hl rfl trivial (r_nilCheck hl rfl) ?_)
    clear hl a; intro a hl
    refine wl (wl_val hl rfl trivial (r_field hl rfl fld127_4) ?_)
    clear hl a; intro a hl
    refine wl (wl_val hl rfl trivial (r_indexA hl rfl rfl arr125 (by omega) (by omega) (by first | (simp only [Int.reduceToNat]; rfl) | exact toNat_add1 _ | exact toNat_add2 _ _ | exact toNat_emod _ _ | exact Int.toNat_natCast _ | rfl)) ?_)
    clear hl a; intro a hl
    refine wl (w_load hl hh rfl trivial one9 rfl (by repeat (first | exact find_head | apply find_tail | apply find_skip)) (by first | exact gtc_led _ | exact gtc_ep _ | exact gtc_vs _ | exact gtc_is _ | exact gtc_fid _ | exact gtc_ph _ | exact gtc_vd _ | exact gtc_q _ | exact gtc_rf _ | exact gtc_ys _ | exact gtc_dn _ | exact gtc_tk _ | exact gtc_au _ | exact gtc_o _ | exact gtc_off _ | exact gtc_sl _ hd | rfl) ?_)
    clear hl a; intro a hl
    refine wl (wl_val hl rfl trivial (r_field hl rfl fld38_7) ?_)
    clear hl a; intro a hl
    refine wl (w_store hl hh trivial one9 rfl rfl (by repeat (first | exact find_head | apply find_tail | apply find_skip)) (by first | (simp; done) | (simp; omega) | (rw [gtc_len]; omega) | (rw [gtc_len]; simp; done)) (by first | rfl | assumption | (apply Row.one; assumption)) (by first | exact gtc_sys _ _ | exact gtc_sdn _ _ | exact gtc_stk _ _ | exact gtc_sau _ _ | exact gtc_soff _ _ | exact gtc_so _ _ _ _ E2 | (simp only [setL, List.getElem?_cons_zero, List.getElem?_cons_succ, Value.cells, List.take_zero, List.take_succ_cons, List.take_nil, List.drop_zero, List.drop_succ_cons, List.drop_nil, List.length_cons, List.length_nil, List.cons_append, List.nil_append, List.append_nil, Nat.zero_add, Nat.add_zero, Nat.reduceAdd, Nat.reduceBEq, Nat.reduceEqDiff, Nat.ble, BEq.rfl, Bool.and_true, Bool.and_self, cond_true, beq_self_eq_true]; rfl)) ?_)
    clear hh w; intro w hh
    refine w_nil ?_
    have hl2 := hl.add (t := 0) (hl.add (t := 6) (hl.nil) rfl) rfl; clear hl; have hl := hl2; clear hl2
    rw [← hms] at hh
    refine then_normal ?_
    refine c_draw [(gb, C (GtV.c g) 127), (k6, C (msc (mkP g.st.pl g.sl k d)) 38)] [8, 9, 10] mixed hh ?_
    clear hh w; intro w hh
    have hM : Mem [(gb, C (GtV.c g) 127), (k6, C (msc (mkP g.st.pl g.sl k d)) 38)] w := (memK hh (by repeat (first | exact keeps_nil | apply keeps_cons (by repeat (first | exact find_head | apply find_tail | apply find_skip)) (by first  | rfl) | exact keeps_self | exact keeps_left | apply keeps_app | apply keeps_mv | apply keeps_skip)))
    refine d_take (i := 0) hl rfl (by kernel_rfl) (by kernel_rfl) (by kernel_rfl) (by kernel_rfl) (by kernel_rfl) rfl trivial (fun _ _ _ h => h) hM (fun w hC => r_move hl rfl) rfl ?_
    clear hl a; intro a hl
    refine d_take (i := 1) hl rfl (by kernel_rfl) (by kernel_rfl) (by kernel_rfl) (by kernel_rfl) (by kernel_rfl) rfl trivial (fun _ _ _ h => h) hM (fun w hC => r_move hl rfl) rfl ?_
    clear hl a; intro a hl
    refine d_take (i := 2) hl rfl (by kernel_rfl) (by kernel_rfl) (by kernel_rfl) (by kernel_rfl) (by kernel_rfl) rfl trivial (fun _ _ _ h => h) hM (fun w hC => r_nilCheck hl rfl) rfl ?_
    clear hl a; intro a hl
    refine d_take (i := 3) hl rfl (by kernel_rfl) (by kernel_rfl) (by kernel_rfl) (by kernel_rfl) (by kernel_rfl) rfl trivial (fun _ _ _ h => h) hM (fun w hC => r_field hl rfl fld127_9) rfl ?_
    clear hl a; intro a hl
    refine d_take (i := 4) hl rfl (by kernel_rfl) (by kernel_rfl) (by kernel_rfl) (by kernel_rfl) (by kernel_rfl) rfl trivial (fun _ _ _ h => h) hM (fun w hC => r_loadC hl rfl one53 hC (by repeat (first | exact find_head | apply find_tail | apply find_skip)) (by first | exact gtc_led _ | exact gtc_ep _ | exact gtc_vs _ | exact gtc_is _ | exact gtc_fid _ | exact gtc_ph _ | exact gtc_vd _ | exact gtc_q _ | exact gtc_rf _ | exact gtc_ys _ | exact gtc_dn _ | exact gtc_tk _ | exact gtc_au _ | exact gtc_o _ | exact gtc_off _ | exact gtc_sl _ hd | rfl)) rfl ?_
    clear hl a; intro a hl
    refine d_take (i := 5) hl rfl (by kernel_rfl) (by kernel_rfl) (by kernel_rfl) (by kernel_rfl) (by kernel_rfl) rfl trivial (fun _ _ _ h => h) hM (fun w hC => r_loadCA hl rfl agg38 hC (by repeat (first | exact find_head | apply find_tail | apply find_skip)) (by first | rfl | (simp only [List.getElem?_cons_zero, List.getElem?_cons_succ, Value.cells, List.take_zero, List.take_succ_cons, List.take_nil, List.drop_zero, List.drop_succ_cons, List.drop_nil, List.length_cons, List.length_nil, List.cons_append, List.nil_append, List.append_nil, Nat.zero_add, Nat.add_zero, Nat.reduceAdd, Nat.reduceBEq, Nat.reduceEqDiff, Nat.ble, BEq.rfl, Bool.and_true, Bool.and_self, cond_true, beq_self_eq_true]; rfl)) (by first | rfl | (simp; done))) rfl ?_
    clear hl a; intro a hl
    refine d_one (i := 6) (by kernel_rfl) rfl ?_
    try clear hM
    refine id (w_buildSlice hl hh rfl trivial app53 zero38 rfl rfl rfl rfl rfl (by simp only [fillL, arrPl, List.range_succ, List.range_zero, List.map_cons, List.map_nil, List.map_append, List.nil_append, List.replicate_succ, List.replicate_zero, List.flatten_cons, List.flatten_nil, Nat.zero_mul, Nat.mul_one, Nat.one_mul, Nat.reduceMul, setL, List.getElem?_cons_zero, List.getElem?_cons_succ, Value.cells, List.take_zero, List.take_succ_cons, List.take_nil, List.drop_zero, List.drop_succ_cons, List.drop_nil, List.length_cons, List.length_nil, List.cons_append, List.nil_append, List.append_nil, Nat.zero_add, Nat.add_zero, Nat.reduceAdd, Nat.reduceBEq, Nat.reduceEqDiff, Nat.ble, BEq.rfl, Bool.and_true, Bool.and_self, cond_true, beq_self_eq_true]; rfl) ?_)
    clear hl hh a w; intro k37 a w hl hh
    have hM : Mem [(gb, C (GtV.c g) 127), (k6, C (msc (mkP g.st.pl g.sl k d)) 38)] w := (memK hh (by repeat (first | exact keeps_nil | apply keeps_cons (by repeat (first | exact find_head | apply find_tail | apply find_skip)) (by first  | rfl) | exact keeps_self | exact keeps_left | apply keeps_app | apply keeps_mv | apply keeps_skip)))
    refine d_step (fun _ => hM) ?_
    refine d_one (i := 7) (by kernel_rfl) rfl ?_
    try clear hM
    refine id (w_append (news := (msc (mkP g.st.pl g.sl k d))) hl hh rfl trivial app53 rfl rfl rfl hR (by repeat (first | exact keeps_nil | apply keeps_cons (by repeat (first | exact find_head | apply find_tail | apply find_skip)) (by first  | rfl) | exact keeps_self | exact keeps_left | apply keeps_app | apply keeps_mv | apply keeps_skip)) (hh.mem _ _ (Find.mem (by repeat (first | exact find_head | apply find_tail | apply find_skip)))) rfl rfl (msc_one _) (by omega) (by omega) (by omega) (by decide) ?_)
    clear hl hh a w; intro rv2 E2 a w hR2 hl hh
    have hh3 := hh.comm; clear hh; have hh := hh3; clear hh3
    try simp only [List.cons_append, List.nil_append, List.append_assoc, List.append_nil] at hh
    obtain ⟨p6, c6, hv6⟩ := row_val hR2
    rw [hv6] at hl hR2
    rw [show g.out.length + 1 = (g.out ++ [mkP g.st.pl g.sl k d]).length by simp, show fl msc g.out ++ msc (mkP g.st.pl g.sl k d) = fl msc (g.out ++ [mkP g.st.pl g.sl k d]) by rw [fl_app, fl_sing]] at hR2
    rw [show g.out.length + 1 = (g.out ++ [mkP g.st.pl g.sl k d]).length by simp] at hl
    have hM : Mem [(gb, C (GtV.c g) 127), (k6, C (msc (mkP g.st.pl g.sl k d)) 38)] w := (memK hh (by repeat (first | exact keeps_nil | apply keeps_cons (by repeat (first | exact find_head | apply find_tail | apply find_skip)) (by first  | rfl) | exact keeps_self | exact keeps_left | apply keeps_app | apply keeps_mv | apply keeps_skip)))
    refine d_step (fun _ => hM) ?_
    refine d_takeL (i := 8) hl rfl (by kernel_rfl) (by kernel_rfl) (by kernel_rfl) (by kernel_rfl) (by kernel_rfl) rfl trivial (fun _ _ _ h => h) (fun w => r_nilCheck hl rfl) rfl ?_
    clear hl a; intro a hl
    refine d_takeL (i := 9) hl rfl (by kernel_rfl) (by kernel_rfl) (by kernel_rfl) (by kernel_rfl) (by kernel_rfl) rfl trivial (fun _ _ _ h => h) (fun w => r_field hl rfl fld127_9) rfl ?_
    clear hl a; intro a hl
    refine d_one (i := 10) (by kernel_rfl) rfl ?_
    try clear hM
    refine id (w_store hl hh trivial one53 rfl rfl (by repeat (first | exact find_head | apply find_tail | apply find_skip)) (by first | (simp; done) | (simp; omega) | (rw [gtc_len]; omega) | (rw [gtc_len]; simp; done)) (by first | rfl | assumption | (apply Row.one; assumption)) (by first | exact gtc_sys _ _ | exact gtc_sdn _ _ | exact gtc_stk _ _ | exact gtc_sau _ _ | exact gtc_soff _ _ | exact gtc_so _ _ _ _ E2 | (simp only [setL, List.getElem?_cons_zero, List.getElem?_cons_succ, Value.cells, List.take_zero, List.take_succ_cons, List.take_nil, List.drop_zero, List.drop_succ_cons, List.drop_nil, List.length_cons, List.length_nil, List.cons_append, List.nil_append, List.append_nil, Nat.zero_add, Nat.add_zero, Nat.reduceAdd, Nat.reduceBEq, Nat.reduceEqDiff, Nat.ble, BEq.rfl, Bool.and_true, Bool.and_self, cond_true, beq_self_eq_true]; rfl)) ?_)
    clear hh w; intro w hh
    refine d_step (fun h => absurd h (by decide)) ?_
    refine d_done (by kernel_rfl) ?_
    try clear hM
    have hl2 := hl.nil; clear hl; have hl := hl2; clear hl2
    refine f_end0 (F' := (gb, C (GtV.c { g with op := p6, out := g.out ++ [mkP g.st.pl g.sl k d], oc := c6, oE := E2 }) 127) :: E2) hl hh rfl (by repeat (first | exact keeps_nil | apply keeps_cons (by repeat (first | exact find_head | apply find_tail | apply find_skip)) (by first  | rfl) | exact keeps_self | exact keeps_left | apply keeps_app | apply keeps_mv | apply keeps_skip)) ?_
    exact ⟨rfl, p6, c6, E2, hR2, rfl⟩
  · intro hc0
    try simp only [decide_eq_true_eq, decide_eq_false_iff_not, Bool.not_eq_true', Bool.not_eq_false', Bool.not_eq_true, Bool.not_eq_false, Bool.and_eq_true, Bool.or_eq_true, Bool.and_eq_false_iff, Bool.or_eq_false_iff, Bool.not_not, ne_eq, Int.not_lt, Int.not_le, Decidable.not_not, beq_iff_eq, bne_iff_ne] at hc0
    have hms : msc (mkP g.st.pl g.sl k d) = [.int .u8 k, .int .u8 (d : Int), .int .u32 g.st.ep, .int .u32 g.st.fid, .bool false, .int .u32 0, .int .u32 0, .string ⟨#[]⟩] := by unfold mkP msc; simp only; rw [if_neg hc0]; rfl
    rw [← hms] at hh
    refine wp_skip ?_
    refine then_normal ?_
    refine c_draw [(gb, C (GtV.c g) 127), (k6, C (msc (mkP g.st.pl g.sl k d)) 38)] [8, 9, 10] mixed hh ?_
    clear hh w; intro w hh
    have hM : Mem [(gb, C (GtV.c g) 127), (k6, C (msc (mkP g.st.pl g.sl k d)) 38)] w := (memK hh (by repeat (first | exact keeps_nil | apply keeps_cons (by repeat (first | exact find_head | apply find_tail | apply find_skip)) (by first  | rfl) | exact keeps_self | exact keeps_left | apply keeps_app | apply keeps_mv | apply keeps_skip)))
    refine d_take (i := 0) hl rfl (by kernel_rfl) (by kernel_rfl) (by kernel_rfl) (by kernel_rfl) (by kernel_rfl) rfl trivial (fun _ _ _ h => h) hM (fun w hC => r_move hl rfl) rfl ?_
    clear hl a; intro a hl
    refine d_take (i := 1) hl rfl (by kernel_rfl) (by kernel_rfl) (by kernel_rfl) (by kernel_rfl) (by kernel_rfl) rfl trivial (fun _ _ _ h => h) hM (fun w hC => r_move hl rfl) rfl ?_
    clear hl a; intro a hl
    refine d_take (i := 2) hl rfl (by kernel_rfl) (by kernel_rfl) (by kernel_rfl) (by kernel_rfl) (by kernel_rfl) rfl trivial (fun _ _ _ h => h) hM (fun w hC => r_nilCheck hl rfl) rfl ?_
    clear hl a; intro a hl
    refine d_take (i := 3) hl rfl (by kernel_rfl) (by kernel_rfl) (by kernel_rfl) (by kernel_rfl) (by kernel_rfl) rfl trivial (fun _ _ _ h => h) hM (fun w hC => r_field hl rfl fld127_9) rfl ?_
    clear hl a; intro a hl
    refine d_take (i := 4) hl rfl (by kernel_rfl) (by kernel_rfl) (by kernel_rfl) (by kernel_rfl) (by kernel_rfl) rfl trivial (fun _ _ _ h => h) hM (fun w hC => r_loadC hl rfl one53 hC (by repeat (first | exact find_head | apply find_tail | apply find_skip)) (by first | exact gtc_led _ | exact gtc_ep _ | exact gtc_vs _ | exact gtc_is _ | exact gtc_fid _ | exact gtc_ph _ | exact gtc_vd _ | exact gtc_q _ | exact gtc_rf _ | exact gtc_ys _ | exact gtc_dn _ | exact gtc_tk _ | exact gtc_au _ | exact gtc_o _ | exact gtc_off _ | exact gtc_sl _ hd | rfl)) rfl ?_
    clear hl a; intro a hl
    refine d_take (i := 5) hl rfl (by kernel_rfl) (by kernel_rfl) (by kernel_rfl) (by kernel_rfl) (by kernel_rfl) rfl trivial (fun _ _ _ h => h) hM (fun w hC => r_loadCA hl rfl agg38 hC (by repeat (first | exact find_head | apply find_tail | apply find_skip)) (by first | rfl | (simp only [List.getElem?_cons_zero, List.getElem?_cons_succ, Value.cells, List.take_zero, List.take_succ_cons, List.take_nil, List.drop_zero, List.drop_succ_cons, List.drop_nil, List.length_cons, List.length_nil, List.cons_append, List.nil_append, List.append_nil, Nat.zero_add, Nat.add_zero, Nat.reduceAdd, Nat.reduceBEq, Nat.reduceEqDiff, Nat.ble, BEq.rfl, Bool.and_true, Bool.and_self, cond_true, beq_self_eq_true]; rfl)) (by first | rfl | (simp; done))) rfl ?_
    clear hl a; intro a hl
    refine d_one (i := 6) (by kernel_rfl) rfl ?_
    try clear hM
    refine id (w_buildSlice hl hh rfl trivial app53 zero38 rfl rfl rfl rfl rfl (by simp only [fillL, arrPl, List.range_succ, List.range_zero, List.map_cons, List.map_nil, List.map_append, List.nil_append, List.replicate_succ, List.replicate_zero, List.flatten_cons, List.flatten_nil, Nat.zero_mul, Nat.mul_one, Nat.one_mul, Nat.reduceMul, setL, List.getElem?_cons_zero, List.getElem?_cons_succ, Value.cells, List.take_zero, List.take_succ_cons, List.take_nil, List.drop_zero, List.drop_succ_cons, List.drop_nil, List.length_cons, List.length_nil, List.cons_append, List.nil_append, List.append_nil, Nat.zero_add, Nat.add_zero, Nat.reduceAdd, Nat.reduceBEq, Nat.reduceEqDiff, Nat.ble, BEq.rfl, Bool.and_true, Bool.and_self, cond_true, beq_self_eq_true]; rfl) ?_)
    clear hl hh a w; intro k37 a w hl hh
    have hM : Mem [(gb, C (GtV.c g) 127), (k6, C (msc (mkP g.st.pl g.sl k d)) 38)] w := (memK hh (by repeat (first | exact keeps_nil | apply keeps_cons (by repeat (first | exact find_head | apply find_tail | apply find_skip)) (by first  | rfl) | exact keeps_self | exact keeps_left | apply keeps_app | apply keeps_mv | apply keeps_skip)))
    refine d_step (fun _ => hM) ?_
    refine d_one (i := 7) (by kernel_rfl) rfl ?_
    try clear hM
    refine id (w_append (news := (msc (mkP g.st.pl g.sl k d))) hl hh rfl trivial app53 rfl rfl rfl hR (by repeat (first | exact keeps_nil | apply keeps_cons (by repeat (first | exact find_head | apply find_tail | apply find_skip)) (by first  | rfl) | exact keeps_self | exact keeps_left | apply keeps_app | apply keeps_mv | apply keeps_skip)) (hh.mem _ _ (Find.mem (by repeat (first | exact find_head | apply find_tail | apply find_skip)))) rfl rfl (msc_one _) (by omega) (by omega) (by omega) (by decide) ?_)
    clear hl hh a w; intro rv2 E2 a w hR2 hl hh
    have hh3 := hh.comm; clear hh; have hh := hh3; clear hh3
    try simp only [List.cons_append, List.nil_append, List.append_assoc, List.append_nil] at hh
    obtain ⟨p6, c6, hv6⟩ := row_val hR2
    rw [hv6] at hl hR2
    rw [show g.out.length + 1 = (g.out ++ [mkP g.st.pl g.sl k d]).length by simp, show fl msc g.out ++ msc (mkP g.st.pl g.sl k d) = fl msc (g.out ++ [mkP g.st.pl g.sl k d]) by rw [fl_app, fl_sing]] at hR2
    rw [show g.out.length + 1 = (g.out ++ [mkP g.st.pl g.sl k d]).length by simp] at hl
    have hM : Mem [(gb, C (GtV.c g) 127), (k6, C (msc (mkP g.st.pl g.sl k d)) 38)] w := (memK hh (by repeat (first | exact keeps_nil | apply keeps_cons (by repeat (first | exact find_head | apply find_tail | apply find_skip)) (by first  | rfl) | exact keeps_self | exact keeps_left | apply keeps_app | apply keeps_mv | apply keeps_skip)))
    refine d_step (fun _ => hM) ?_
    refine d_takeL (i := 8) hl rfl (by kernel_rfl) (by kernel_rfl) (by kernel_rfl) (by kernel_rfl) (by kernel_rfl) rfl trivial (fun _ _ _ h => h) (fun w => r_nilCheck hl rfl) rfl ?_
    clear hl a; intro a hl
    refine d_takeL (i := 9) hl rfl (by kernel_rfl) (by kernel_rfl) (by kernel_rfl) (by kernel_rfl) (by kernel_rfl) rfl trivial (fun _ _ _ h => h) (fun w => r_field hl rfl fld127_9) rfl ?_
    clear hl a; intro a hl
    refine d_one (i := 10) (by kernel_rfl) rfl ?_
    try clear hM
    refine id (w_store hl hh trivial one53 rfl rfl (by repeat (first | exact find_head | apply find_tail | apply find_skip)) (by first | (simp; done) | (simp; omega) | (rw [gtc_len]; omega) | (rw [gtc_len]; simp; done)) (by first | rfl | assumption | (apply Row.one; assumption)) (by first | exact gtc_sys _ _ | exact gtc_sdn _ _ | exact gtc_stk _ _ | exact gtc_sau _ _ | exact gtc_soff _ _ | exact gtc_so _ _ _ _ E2 | (simp only [setL, List.getElem?_cons_zero, List.getElem?_cons_succ, Value.cells, List.take_zero, List.take_succ_cons, List.take_nil, List.drop_zero, List.drop_succ_cons, List.drop_nil, List.length_cons, List.length_nil, List.cons_append, List.nil_append, List.append_nil, Nat.zero_add, Nat.add_zero, Nat.reduceAdd, Nat.reduceBEq, Nat.reduceEqDiff, Nat.ble, BEq.rfl, Bool.and_true, Bool.and_self, cond_true, beq_self_eq_true]; rfl)) ?_)
    clear hh w; intro w hh
    refine d_step (fun h => absurd h (by decide)) ?_
    refine d_done (by kernel_rfl) ?_
    try clear hM
    have hl2 := hl.nil; clear hl; have hl := hl2; clear hl2
    refine f_end0 (F' := (gb, C (GtV.c { g with op := p6, out := g.out ++ [mkP g.st.pl g.sl k d], oc := c6, oE := E2 }) 127) :: E2) hl hh rfl (by repeat (first | exact keeps_nil | apply keeps_cons (by repeat (first | exact find_head | apply find_tail | apply find_skip)) (by first  | rfl) | exact keeps_self | exact keeps_left | apply keeps_app | apply keeps_mv | apply keeps_skip)) ?_
    exact ⟨rfl, p6, c6, E2, hR2, rfl⟩
end Go.Proofs.Qxb6500908aGreat

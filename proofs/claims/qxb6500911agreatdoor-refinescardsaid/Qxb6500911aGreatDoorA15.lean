import Derived.Test.Qxb6500911aGreatDoorA14
namespace Go.Proofs.Qxb6500911aGreatDoor
open Go.Eng
set_option linter.unusedVariables false
set_option linter.unusedSimpArgs false
theorem cal30 : callable Tryz.prog 30 = true := by kernel_rfl
theorem zero160 : zeroOk Tryz.prog 160 (.agg #[(.int .u32 0), (.int .i64 0), (.int .u64 0), (.int .u16 0)]) := by unfold zeroOk; kernel_rfl
theorem bld160 : buildOk Tryz.prog 160 [(0, 1), (1, 1), (2, 1), (3, 1)] = true := by kernel_rfl
theorem cal73 : callable Tryz.prog 73 = true := by kernel_rfl
/-! ## publish -/
def pub1 (a : Nat) (b : Bt) (g : Gs) (w : Nat) : Gs :=
  if b.ended.getLsbD w = true then routeG g a ⟨3, w, b.ep w, 0#16⟩ else
    if b.add w ≠ 0#16 then routeG (if b.del w ≠ 0#16 then routeG g a ⟨2, w, b.ep w, b.del w⟩ else g) a ⟨1, w, b.ep w, b.add w⟩ else (if b.del w ≠ 0#16 then routeG g a ⟨2, w, b.ep w, b.del w⟩ else g)
def publN (a : Nat) (b : Bt) (g : Gs) : Nat → Gs
  | 0 => g
  | n + 1 => pub1 a b (publN a b g n) n
structure BtOk (Q : Int) (b : Bt) : Prop where
  ep : ∀ t, t < 16 → 0 ≤ b.ep t ∧ b.ep t ≤ Q
  add : ∀ t, t < 16 → (b.add t).getLsbD t = false
  del : ∀ t, t < 16 → (b.del t).getLsbD t = false
def RoomI (a n : Nat) (bx : Nat → List Ms) : Prop := ∀ to, to < 4 → to ≠ a → (bx (a * 4 + to)).length ≤ 24 + 2 * ((n + 3 - to) / 4)
theorem route_len {g : Gs} {a : Nat} {u : Up} (ha : a < 4) {to : Nat} (ht : to < 4) (hn : to ≠ a) : ((routeG g a u).bx (a * 4 + to)).length = (g.bx (a * 4 + to)).length + (if u.w % 4 = to then 1 else 0) := by
  unfold routeG
  split
  · rw [if_neg (by omega)]; rfl
  · simp only [bxU]
    by_cases c : u.w % 4 = to
    · rw [if_pos (by omega), if_pos c, List.length_append, c]; rfl
    · rw [if_neg (by omega), if_neg c, Nat.add_zero]
structure PZ where
  g : Gs
  M : Mm
  i : Nat
/-- what publish holds in its loop -/
structure PI (B Q : Int) (a : Nat) (b : Bt) (g0 : Gs) (M0 : Mm) (g : Gs) (M : Mm) (i : Nat) : Prop where
  bb : M.bm = M0.bm ∧ M.bt = M0.bt
  s : SysF g M
  gi : GI (B + 2 * i) Q g
  eq : g = publN a b g0 i
  room : RoomI a i g.bx
/-- halfway: k of the messages of task i are out -/
structure PH (B Q : Int) (a : Nat) (M0 : Mm) (g : Gs) (M : Mm) (i k : Nat) : Prop where
  bb : M.bm = M0.bm ∧ M.bt = M0.bt
  s : SysF g M
  gi : GI (B + 2 * i + k) Q g
  room : ∀ to, to < 4 → to ≠ a → (g.bx (a * 4 + to)).length ≤ 24 + 2 * ((i + 3 - to) / 4) + (if i % 4 = to then k else 0)
theorem PI.half {B Q : Int} {a : Nat} {b : Bt} {g0 g : Gs} {M0 M : Mm} {i : Nat} (h : PI B Q a b g0 M0 g M i) : PH B Q a M0 g M i 0 := ⟨h.bb, h.s, by simpa using h.gi, fun to h1 h2 => by have := h.room to h1 h2; split <;> omega⟩
theorem PH.rm {B Q : Int} {a : Nat} {g : Gs} {M0 M : Mm} {i k : Nat} (h : PH B Q a M0 g M i k) (hi : i < 16) (hk : k ≤ 1) : i % 4 ≠ a → (g.bx (a * 4 + i % 4)).length < 32 := fun hn => by
  have := h.room (i % 4) (by omega) hn
  rw [if_pos rfl] at this
  omega
theorem PH.next {B Q : Int} {a : Nat} {g : Gs} {M0 M M' : Mm} {i k : Nat} {u : Up} (h : PH B Q a M0 g M i k) (hq : BQ (B + 2 * i + k) Q) (ha : a < 4) (hu : UpOk Q u) (hw : u.w = i) (hi : i < 16) (hk : k ≤ 1) (hS : SysF (routeG g a u) M') (hb : M'.bm = M.bm ∧ M'.bt = M.bt) : PH B Q a M0 (routeG g a u) M' i (k + 1) := by
  have hrm := h.rm hi hk
  have hg := h.gi.route hq ha hu (by rw [hw]; exact hrm)
  refine ⟨⟨hb.1.trans h.bb.1, hb.2.trans h.bb.2⟩, hS, by rw [show B + 2 * (i : Int) + ((k + 1 : Nat) : Int) = B + 2 * i + k + 1 by omega]; exact hg, fun to h1 h2 => ?_⟩
  have := h.room to h1 h2
  rw [route_len ha h1 h2, hw]
  split <;> rename_i c
  · rw [if_pos c] at this; omega
  · rw [if_neg c] at this; omega
theorem PH.fin {B Q : Int} {a : Nat} {b : Bt} {g0 g : Gs} {M0 M : Mm} {i k : Nat} (h : PH B Q a M0 g M i k) (hk : k ≤ 2) (hi : i < 16) (he : g = publN a b g0 (i + 1)) : PI B Q a b g0 M0 g M (i + 1) := by
  refine ⟨h.bb, h.s, h.gi.mono (by omega) (Int.le_refl _), he, fun to h1 h2 => ?_⟩
  have := h.room to h1 h2
  split at this <;> omega
theorem upok3 {Q : Int} {b : Bt} {i : Nat} (hb : BtOk Q b) (hi : i < 16) : UpOk Q ⟨3, i, b.ep i, 0#16⟩ := ⟨hi, hb.ep i hi, .inl ⟨rfl, rfl⟩, by simp⟩
theorem upok2 {Q : Int} {b : Bt} {i : Nat} (hb : BtOk Q b) (hi : i < 16) (h : b.del i ≠ 0#16) : UpOk Q ⟨2, i, b.ep i, b.del i⟩ := ⟨hi, hb.ep i hi, .inr ⟨.inr rfl, h⟩, hb.del i hi⟩
theorem upok1 {Q : Int} {b : Bt} {i : Nat} (hb : BtOk Q b) (hi : i < 16) (h : b.add i ≠ 0#16) : UpOk Q ⟨1, i, b.ep i, b.add i⟩ := ⟨hi, hb.ep i hi, .inr ⟨.inl rfl, h⟩, hb.add i hi⟩
theorem mi_ne {m : BitVec 16} (h : ¬ mi m = 0) : m ≠ 0#16 := fun e => h ((mi_zero m).2 e)
theorem PI.start {B Q : Int} {a : Nat} {b : Bt} {g : Gs} {M : Mm} (hS : SysF g M) (hG : GI B Q g) (hr : roomP g.bx a 4 = true) : PI B Q a b g M g M 0 :=
  ⟨⟨rfl, rfl⟩, hS, by simpa using hG, rfl, fun to h1 h2 => by have := roomP_spec.1 hr to h1 h2; omega⟩
theorem PH.up {B Q : Int} {a : Nat} {g : Gs} {M0 M : Mm} {i : Nat} (h : PH B Q a M0 g M i 0) : PH B Q a M0 g M i 1 :=
  ⟨h.bb, h.s, h.gi.mono (by omega) (Int.le_refl _), fun to h1 h2 => by
    have := h.room to h1 h2
    rw [ite_self] at this
    split <;> omega⟩


set_option maxHeartbeats 4000000 in
theorem publish_spec {g : Gs} {M : Mm} (hS : SysF g M) (bg : Nat) (tT : TypeId) (tf : Nat × Nat) (B Q : Int) (hq : BQ (B + 40) Q) (hB0 : 0 ≤ B) (hG : GI B Q g) (at_ : Nat) (ha : at_ < 4) (b : Bt) (hbo : BtOk Q b) (hroom : roomP g.bx at_ 4 = true) (bb : Nat) : SpK Tryz.prog 46 #[.pointer (some ⟨bg, 0, none⟩), .int .i64 (at_ : Int), .pointer (some ⟨bb, 0, none⟩)] (PreT tT tf ((bb, C (arrL 50 (btV b)) 118) :: sysL bg M)) ((bb, C (arrL 50 (btV b)) 118) :: sysL bg M) (fun v F' => v = .tuple #[] ∧ ∃ M', F' = (bb, C (arrL 50 (btV b)) 118) :: sysL bg M' ∧ PI B Q at_ b g M (publN at_ b g 16) M' 16) := by
  refine f_enter (args := [.pointer (some ⟨bg, 0, none⟩), .int .i64 (at_ : Int), .pointer (some ⟨bb, 0, none⟩)]) Tryz.func46 rfl Tryz.ntmps46 rfl ?_
  intro w0 w a hpre hl hh
  have hb1 := hq.b; have hq1 := hq.q
  simp only [slotsFrom, Nat.reduceAdd] at hl
  refine c_seq ?_
  refine c_region ?_
  refine wl (wl_val hl rfl trivial (r_assign hl rfl) ?_)
  clear hl a; intro a hl
  refine w_nil ?_
  have hl2 := hl.add (t := 0) (hl.add (t := 1) (hl.add (t := 2) (hl.add (t := 6) (hl.nil) rfl) rfl) rfl) rfl; clear hl; have hl := hl2; clear hl2
  refine then_normal ?_
  refine wp_block ?_
  obtain ⟨KS0, hKS0, hk⟩ := (hl.add (t := 0) (hl.add (t := 1) (hl.add (t := 2) (hl.nil) rfl) rfl) rfl).name
  obtain ⟨HS0, hHS0, hh2⟩ := hh.nameT (A := []) (U := (sysL bg M)) ((by repeat (first | exact keeps_nil | exact keeps_self | exact keeps_left | apply keeps_app | apply keeps_mv | apply keeps_skip)))
  refine c_loop (α := PZ) (fun z => 16 - z.i) (fun z a w => (z.i ≤ 16 ∧ PI B Q at_ b g M z.g z.M z.i) ∧ Sl 76 ([(6, .int .i64 (z.i : Int))] ++ KS0) a ∧ Has _ w0 ([] ++ (HS0 ++ (sysL bg z.M))) w) ⟨g, M, 0⟩ ⟨⟨Nat.zero_le _, PI.start hS hG hroom⟩, hl.addE (t := 6) (hk) rfl (by first | rfl), hh2⟩ ?_
  clear hk hh2 hl hh a w
  intro z a w hI
  obtain ⟨⟨hzi, hI⟩, hl, hh⟩ := hI
  subst hKS0; subst hHS0
  simp only [List.cons_append, List.nil_append, List.append_nil, List.append_assoc] at hl hh
  obtain ⟨i, hiv⟩ : ∃ i, i = z.i := ⟨_, rfl⟩
  rw [← hiv] at hl hzi hI
  have hH := hI.half
  have hqq : ∀ k : Nat, k ≤ 1 → BQ (B + 2 * i + k) Q := fun k hk => ⟨by omega, hq1⟩
  refine c_seq ?_
  refine c_seq ?_
  refine c_region ?_
  refine wl (wl_val hl rfl trivial (r_move hl rfl) ?_)
  clear hl a; intro a hl
  refine wl (wl_val hl rfl trivial (r_lss hl rfl rfl) ?_)
  clear hl a; intro a hl
  refine w_nil ?_
  have hl2 := hl.add (t := 0) (hl.add (t := 1) (hl.add (t := 2) (hl.add (t := 6) (hl.add (t := 8) (hl.nil) rfl) rfl) rfl) rfl) rfl; clear hl; have hl := hl2; clear hl2
  refine then_normal ?_
  refine c_cond hl rfl ?_ ?_
  · intro hc0
    try simp only [decide_eq_true_eq, decide_eq_false_iff_not, Bool.not_eq_true', Bool.not_eq_false', Bool.not_eq_true, Bool.not_eq_false, Bool.and_eq_true, Bool.or_eq_true, Bool.and_eq_false_iff, Bool.or_eq_false_iff, Bool.not_not, ne_eq, Int.not_lt, Int.not_le, Decidable.not_not, beq_iff_eq, bne_iff_ne] at hc0
    have hi16 : i < 16 := by omega
    refine wp_skip ?_
    refine then_normal ?_
    refine c_seq ?_
    refine wp_block ?_
    refine c_seq ?_
    refine c_seq ?_
    refine c_region ?_
    refine wl (wl_val hl rfl trivial (r_move hl rfl) ?_)
    clear hl a; intro a hl
    refine wl (wl_val hl rfl trivial (r_nilCheck hl rfl) ?_)
    clear hl a; intro a hl
    refine wl (wl_val hl rfl trivial (r_field hl rfl fld118_0) ?_)
    clear hl a; intro a hl
    refine wl (w_load hl hh rfl trivial one37 rfl (by repeat (first | exact find_head | apply find_tail | apply find_skip)) (by first | exact bt_ended _ | exact bt_woken _ | exact bt_add _ hi16 | exact bt_del _ hi16 | exact bt_ep _ hi16 | exact fg_ep hi16 | rfl) ?_)
    clear hl a; intro a hl
    refine wl (wl_val hl rfl trivial (r_move hl rfl) ?_)
    clear hl a; intro a hl
    refine wl (w_call hl hh rfl trivial rfl cal30 rfl (has_spec b.ended i hi16) (by repeat (first | exact keeps_nil | apply keeps_cons (by repeat (first | exact find_head | apply find_tail | apply find_skip)) (by first  | rfl) | exact keeps_self | exact keeps_left | apply keeps_app | apply keeps_mv | apply keeps_skip)) trivial ?_)
    clear hl hh a w; intro vc Fc a w hR hl hh
    obtain ⟨rfl, rfl⟩ := hR
    try simp only [List.cons_append, List.nil_append, List.append_assoc, List.append_nil] at hh
    refine w_nil ?_
    have hl2 := hl.add (t := 0) (hl.add (t := 1) (hl.add (t := 2) (hl.add (t := 6) (hl.add (t := 16) (hl.nil) rfl) rfl) rfl) rfl) rfl; clear hl; have hl := hl2; clear hl2
    refine then_normal ?_
    refine c_cond hl rfl ?_ ?_
    · intro hc1
      try simp only [decide_eq_true_eq, decide_eq_false_iff_not, Bool.not_eq_true', Bool.not_eq_false', Bool.not_eq_true, Bool.not_eq_false, Bool.and_eq_true, Bool.or_eq_true, Bool.and_eq_false_iff, Bool.or_eq_false_iff, Bool.not_not, ne_eq, Int.not_lt, Int.not_le, Decidable.not_not, beq_iff_eq, bne_iff_ne] at hc1
      refine c_seq ?_
      refine c_region ?_
      refine wl (wl_val hl rfl trivial (r_move hl rfl) ?_)
      clear hl a; intro a hl
      refine wl (wl_val hl rfl trivial (r_move hl rfl) ?_)
      clear hl a; intro a hl
      refine wl (wl_val hl rfl trivial (r_move hl rfl) ?_)
      clear hl a; intro a hl
      refine wl (wl_val hl rfl trivial (r_move hl rfl) ?_)
      clear hl a; intro a hl
      refine wl (wl_val hl rfl trivial (r_move hl rfl) ?_)
      clear hl a; intro a hl
      refine wl (wl_val hl rfl trivial (r_nilCheck hl rfl) ?_)
      clear hl a; intro a hl
      refine wl (wl_val hl rfl trivial (r_field hl rfl fld118_4) ?_)
      clear hl a; intro a hl
      refine wl (wl_val hl rfl trivial (r_indexA hl rfl rfl arr43 (by omega) (by omega) (by first | (simp only [Int.reduceToNat]; rfl) | exact toNat_add1 _ | exact toNat_add2 _ _ | exact toNat_emod _ _ | exact Int.toNat_natCast _ | rfl)) ?_)
      clear hl a; intro a hl
      refine wl (w_load hl hh rfl trivial one42 rfl (by repeat (first | exact find_head | apply find_tail | apply find_skip)) (by first | exact bt_ended _ | exact bt_woken _ | exact bt_add _ hi16 | exact bt_del _ hi16 | exact bt_ep _ hi16 | exact fg_ep hi16 | rfl) ?_)
      clear hl a; intro a hl
      refine wl (wl_val hl rfl trivial (r_build hl rfl zero160 bld160 (by simp only [fillL, setL, List.getElem?_cons_zero, List.getElem?_cons_succ, Value.cells, List.take_zero, List.take_succ_cons, List.take_nil, List.drop_zero, List.drop_succ_cons, List.drop_nil, List.length_cons, List.length_nil, List.cons_append, List.nil_append, List.append_nil, Nat.zero_add, Nat.add_zero, Nat.reduceAdd, Nat.reduceBEq, Nat.reduceEqDiff, Nat.ble, BEq.rfl, Bool.and_true, Bool.and_self, cond_true, beq_self_eq_true]; rfl)) ?_)
      clear hl a; intro a hl
      refine wl (w_call hl hh rfl trivial rfl cal73 rfl (route_spec hH.s bg tT tf (B + 2 * i + 0) Q (hqq 0 (by omega)) hH.gi at_ ha ⟨3, i, b.ep i, 0#16⟩ hi16 (hbo.ep i hi16) (hH.rm hi16 (by omega))) (by repeat (first | exact keeps_nil | apply keeps_cons (by repeat (first | exact find_head | apply find_tail | apply find_skip)) (by first  | rfl) | exact keeps_self | exact keeps_left | apply keeps_app | apply keeps_mv | apply keeps_skip)) (pt_call hh hpre (by repeat (first | exact keeps_nil | apply keeps_cons (by repeat (first | exact find_head | apply find_tail | apply find_skip)) (by first  | rfl) | exact keeps_self | exact keeps_left | apply keeps_app | apply keeps_mv | apply keeps_skip))) ?_)
      clear hl hh a w; intro vc Fc a w hR hl hh
      obtain ⟨rfl, M1, hF, hS1, hbb1⟩ := hR
      try simp only [List.cons_append, List.nil_append, List.append_assoc, List.append_nil] at hh
      subst hF
      refine w_nil ?_
      have hl2 := hl.add (t := 0) (hl.add (t := 1) (hl.add (t := 2) (hl.add (t := 6) (hl.nil) rfl) rfl) rfl) rfl; clear hl; have hl := hl2; clear hl2
      obtain ⟨gE, ME, hhE, hIE⟩ : ∃ gE ME, Has (List.map Prod.fst ((bb, C (arrL 50 (btV b)) 118) :: sysL bg M)) w0 ((bb, C (arrL 50 (btV b)) 118) :: sysL bg ME) w ∧ PI B Q at_ b g M gE ME (i + 1) := ⟨_, _, hh.keep (by repeat (first | exact keeps_nil | apply keeps_cons (by repeat (first | exact find_head | apply find_tail | apply find_skip)) (by first  | rfl) | exact keeps_self | exact keeps_left | apply keeps_app | apply keeps_mv | apply keeps_skip)), (hH.next (hqq 0 (by omega)) ha (upok3 hbo hi16) rfl hi16 (by omega) hS1 hbb1).fin (by omega) hi16 (by rw [publN, ← hI.eq]; unfold pub1; rw [if_pos (by assumption)])⟩
      clear hh
      have hh := hhE
      clear hhE
      refine then_normal ?_
      refine wp_exit ?_
      refine then_exit ?_
      refine blk_exit ?_
      refine then_normal ?_
      refine c_region ?_
      refine wl (wl_val hl rfl trivial (r_move hl rfl) ?_)
      clear hl a; intro a hl
      first | refine wl (wl_val hl rfl trivial (r_add hl rfl rfl (by simp only [Fits]; omega)) ?_) | refine wl (wl_val hl rfl trivial (r_addW hl rfl rfl) ?_)
      clear hl a; intro a hl
      refine wl (wl_val hl rfl trivial (r_assign hl rfl) ?_)
      clear hl a; intro a hl
      refine w_nil ?_
      have hl2 := hl.add (t := 0) (hl.add (t := 1) (hl.add (t := 2) (hl.add (t := 6) (hl.nil) rfl) rfl) rfl) rfl; clear hl; have hl := hl2; clear hl2
      refine then_normal ?_
      refine ⟨⟨gE, ME, i + 1⟩, (by simp only; omega), ⟨by simp only; omega, hIE⟩, hl.addE (t := 6) (hl.addE (t := 0) (hl.addE (t := 1) (hl.addE (t := 2) (hl.nil) rfl (by first | rfl | (congr 1; omega))) rfl (by first | rfl | (congr 1; omega))) rfl (by first | rfl | (congr 1; omega))) rfl (by first | rfl | (congr 1; omega)), hh.keep (by repeat (first | exact keeps_nil | apply keeps_cons (by repeat (first | exact find_head | apply find_tail | apply find_skip)) (by first  | rfl) | exact keeps_self | exact keeps_left | apply keeps_app | apply keeps_mv | apply keeps_skip))⟩
    · intro hc1
      try simp only [decide_eq_true_eq, decide_eq_false_iff_not, Bool.not_eq_true', Bool.not_eq_false', Bool.not_eq_true, Bool.not_eq_false, Bool.and_eq_true, Bool.or_eq_true, Bool.and_eq_false_iff, Bool.or_eq_false_iff, Bool.not_not, ne_eq, Int.not_lt, Int.not_le, Decidable.not_not, beq_iff_eq, bne_iff_ne] at hc1
      refine wp_skip ?_
      refine then_normal ?_
      refine c_seq ?_
      refine c_seq ?_
      refine c_region ?_
      refine wl (wl_val hl rfl trivial (r_move hl rfl) ?_)
      clear hl a; intro a hl
      refine wl (wl_val hl rfl trivial (r_move hl rfl) ?_)
      clear hl a; intro a hl
      refine wl (wl_val hl rfl trivial (r_nilCheck hl rfl) ?_)
      clear hl a; intro a hl
      refine wl (wl_val hl rfl trivial (r_field hl rfl fld118_3) ?_)
      clear hl a; intro a hl
      refine wl (wl_val hl rfl trivial (r_indexA hl rfl rfl arr50 (by omega) (by omega) (by first | (simp only [Int.reduceToNat]; rfl) | exact toNat_add1 _ | exact toNat_add2 _ _ | exact toNat_emod _ _ | exact Int.toNat_natCast _ | rfl)) ?_)
      clear hl a; intro a hl
      refine wl (w_load hl hh rfl trivial one37 rfl (by repeat (first | exact find_head | apply find_tail | apply find_skip)) (by first | exact bt_ended _ | exact bt_woken _ | exact bt_add _ hi16 | exact bt_del _ hi16 | exact bt_ep _ hi16 | exact fg_ep hi16 | rfl) ?_)
      clear hl a; intro a hl
      refine wl (wl_val hl rfl trivial (r_neq hl rfl rfl) ?_)
      clear hl a; intro a hl
      refine w_nil ?_
      have hl2 := hl.add (t := 0) (hl.add (t := 1) (hl.add (t := 2) (hl.add (t := 6) (hl.add (t := 34) (hl.nil) rfl) rfl) rfl) rfl) rfl; clear hl; have hl := hl2; clear hl2
      refine then_normal ?_
      refine c_cond hl rfl ?_ ?_
      · intro hc2
        try simp only [decide_eq_true_eq, decide_eq_false_iff_not, Bool.not_eq_true', Bool.not_eq_false', Bool.not_eq_true, Bool.not_eq_false, Bool.and_eq_true, Bool.or_eq_true, Bool.and_eq_false_iff, Bool.or_eq_false_iff, Bool.not_not, ne_eq, Int.not_lt, Int.not_le, Decidable.not_not, beq_iff_eq, bne_iff_ne] at hc2
        have hdl := mi_ne (by assumption)
        refine c_draw [(bb, C (arrL 50 (btV b)) 118)] [16] mixed hh ?_
        clear hh w; intro w hh
        have hM : Mem [(bb, C (arrL 50 (btV b)) 118)] w := (memK hh (by repeat (first | exact keeps_nil | apply keeps_cons (by repeat (first | exact find_head | apply find_tail | apply find_skip)) (by first  | rfl) | exact keeps_self | exact keeps_left | apply keeps_app | apply keeps_mv | apply keeps_skip)))
        refine d_take (i := 0) hl rfl (by kernel_rfl) (by kernel_rfl) (by kernel_rfl) (by kernel_rfl) (by kernel_rfl) rfl trivial (fun _ _ _ h => h) hM (fun w hC => r_move hl rfl) rfl ?_
        clear hl a; intro a hl
        refine d_take (i := 1) hl rfl (by kernel_rfl) (by kernel_rfl) (by kernel_rfl) (by kernel_rfl) (by kernel_rfl) rfl trivial (fun _ _ _ h => h) hM (fun w hC => r_move hl rfl) rfl ?_
        clear hl a; intro a hl
        refine d_take (i := 2) hl rfl (by kernel_rfl) (by kernel_rfl) (by kernel_rfl) (by kernel_rfl) (by kernel_rfl) rfl trivial (fun _ _ _ h => h) hM (fun w hC => r_move hl rfl) rfl ?_
        clear hl a; intro a hl
        refine d_take (i := 3) hl rfl (by kernel_rfl) (by kernel_rfl) (by kernel_rfl) (by kernel_rfl) (by kernel_rfl) rfl trivial (fun _ _ _ h => h) hM (fun w hC => r_move hl rfl) rfl ?_
        clear hl a; intro a hl
        refine d_take (i := 4) hl rfl (by kernel_rfl) (by kernel_rfl) (by kernel_rfl) (by kernel_rfl) (by kernel_rfl) rfl trivial (fun _ _ _ h => h) hM (fun w hC => r_move hl rfl) rfl ?_
        clear hl a; intro a hl
        refine d_take (i := 5) hl rfl (by kernel_rfl) (by kernel_rfl) (by kernel_rfl) (by kernel_rfl) (by kernel_rfl) rfl trivial (fun _ _ _ h => h) hM (fun w hC => r_nilCheck hl rfl) rfl ?_
        clear hl a; intro a hl
        refine d_take (i := 6) hl rfl (by kernel_rfl) (by kernel_rfl) (by kernel_rfl) (by kernel_rfl) (by kernel_rfl) rfl trivial (fun _ _ _ h => h) hM (fun w hC => r_field hl rfl fld118_4) rfl ?_
        clear hl a; intro a hl
        refine d_take (i := 7) hl rfl (by kernel_rfl) (by kernel_rfl) (by kernel_rfl) (by kernel_rfl) (by kernel_rfl) rfl trivial (fun _ _ _ h => h) hM (fun w hC => r_indexA hl rfl rfl arr43 (by omega) (by omega) (by first | (simp only [Int.reduceToNat]; rfl) | exact toNat_add1 _ | exact toNat_add2 _ _ | exact toNat_emod _ _ | exact Int.toNat_natCast _ | rfl)) rfl ?_
        clear hl a; intro a hl
        refine d_take (i := 8) hl rfl (by kernel_rfl) (by kernel_rfl) (by kernel_rfl) (by kernel_rfl) (by kernel_rfl) rfl trivial (fun _ _ _ h => h) hM (fun w hC => r_loadC hl rfl one42 hC (by repeat (first | exact find_head | apply find_tail | apply find_skip)) (by first | exact bt_ended _ | exact bt_woken _ | exact bt_add _ hi16 | exact bt_del _ hi16 | exact bt_ep _ hi16 | exact fg_ep hi16 | rfl)) rfl ?_
        clear hl a; intro a hl
        refine d_take (i := 9) hl rfl (by kernel_rfl) (by kernel_rfl) (by kernel_rfl) (by kernel_rfl) (by kernel_rfl) rfl trivial (fun _ _ _ h => h) hM (fun w hC => r_move hl rfl) rfl ?_
        clear hl a; intro a hl
        refine d_take (i := 10) hl rfl (by kernel_rfl) (by kernel_rfl) (by kernel_rfl) (by kernel_rfl) (by kernel_rfl) rfl trivial (fun _ _ _ h => h) hM (fun w hC => r_move hl rfl) rfl ?_
        clear hl a; intro a hl
        refine d_take (i := 11) hl rfl (by kernel_rfl) (by kernel_rfl) (by kernel_rfl) (by kernel_rfl) (by kernel_rfl) rfl trivial (fun _ _ _ h => h) hM (fun w hC => r_nilCheck hl rfl) rfl ?_
        clear hl a; intro a hl
        refine d_take (i := 12) hl rfl (by kernel_rfl) (by kernel_rfl) (by kernel_rfl) (by kernel_rfl) (by kernel_rfl) rfl trivial (fun _ _ _ h => h) hM (fun w hC => r_field hl rfl fld118_3) rfl ?_
        clear hl a; intro a hl
        refine d_take (i := 13) hl rfl (by kernel_rfl) (by kernel_rfl) (by kernel_rfl) (by kernel_rfl) (by kernel_rfl) rfl trivial (fun _ _ _ h => h) hM (fun w hC => r_indexA hl rfl rfl arr50 (by omega) (by omega) (by first | (simp only [Int.reduceToNat]; rfl) | exact toNat_add1 _ | exact toNat_add2 _ _ | exact toNat_emod _ _ | exact Int.toNat_natCast _ | rfl)) rfl ?_
        clear hl a; intro a hl
        refine d_take (i := 14) hl rfl (by kernel_rfl) (by kernel_rfl) (by kernel_rfl) (by kernel_rfl) (by kernel_rfl) rfl trivial (fun _ _ _ h => h) hM (fun w hC => r_loadC hl rfl one37 hC (by repeat (first | exact find_head | apply find_tail | apply find_skip)) (by first | exact bt_ended _ | exact bt_woken _ | exact bt_add _ hi16 | exact bt_del _ hi16 | exact bt_ep _ hi16 | exact fg_ep hi16 | rfl)) rfl ?_
        clear hl a; intro a hl
        refine d_take (i := 15) hl rfl (by kernel_rfl) (by kernel_rfl) (by kernel_rfl) (by kernel_rfl) (by kernel_rfl) rfl trivial (fun _ _ _ h => h) hM (fun w hC => r_build hl rfl zero160 bld160 (by simp only [fillL, setL, List.getElem?_cons_zero, List.getElem?_cons_succ, Value.cells, List.take_zero, List.take_succ_cons, List.take_nil, List.drop_zero, List.drop_succ_cons, List.drop_nil, List.length_cons, List.length_nil, List.cons_append, List.nil_append, List.append_nil, Nat.zero_add, Nat.add_zero, Nat.reduceAdd, Nat.reduceBEq, Nat.reduceEqDiff, Nat.ble, BEq.rfl, Bool.and_true, Bool.and_self, cond_true, beq_self_eq_true]; rfl)) rfl ?_
        clear hl a; intro a hl
        refine d_one (i := 16) (by kernel_rfl) rfl ?_
        try clear hM
        refine id (w_call hl hh rfl trivial rfl cal73 rfl (route_spec hH.s bg tT tf (B + 2 * i + 0) Q (hqq 0 (by omega)) hH.gi at_ ha ⟨2, i, b.ep i, b.del i⟩ hi16 (hbo.ep i hi16) (hH.rm hi16 (by omega))) (by repeat (first | exact keeps_nil | apply keeps_cons (by repeat (first | exact find_head | apply find_tail | apply find_skip)) (by first  | rfl) | exact keeps_self | exact keeps_left | apply keeps_app | apply keeps_mv | apply keeps_skip)) (pt_call hh hpre (by repeat (first | exact keeps_nil | apply keeps_cons (by repeat (first | exact find_head | apply find_tail | apply find_skip)) (by first  | rfl) | exact keeps_self | exact keeps_left | apply keeps_app | apply keeps_mv | apply keeps_skip))) ?_)
        clear hl hh a w; intro vc Fc a w hR hl hh
        obtain ⟨rfl, M1, hF, hS1, hbb1⟩ := hR
        try simp only [List.cons_append, List.nil_append, List.append_assoc, List.append_nil] at hh
        subst hF
        refine d_step (fun h => absurd h (by decide)) ?_
        refine d_done (by kernel_rfl) ?_
        try clear hM
        have hl2 := hl.add (t := 0) (hl.add (t := 1) (hl.add (t := 2) (hl.add (t := 6) (hl.nil) rfl) rfl) rfl) rfl; clear hl; have hl := hl2; clear hl2
        obtain ⟨g1, M1, hhE, hH1, hg1⟩ : ∃ g1 M1, Has (List.map Prod.fst ((bb, C (arrL 50 (btV b)) 118) :: sysL bg M)) w0 ((bb, C (arrL 50 (btV b)) 118) :: sysL bg M1) w ∧ PH B Q at_ M g1 M1 i 1 ∧ g1 = (if b.del i ≠ 0#16 then routeG z.g at_ ⟨2, i, b.ep i, b.del i⟩ else z.g) := ⟨_, M1, hh.keep (by repeat (first | exact keeps_nil | apply keeps_cons (by repeat (first | exact find_head | apply find_tail | apply find_skip)) (by first  | rfl) | exact keeps_self | exact keeps_left | apply keeps_app | apply keeps_mv | apply keeps_skip)), hH.next (hqq 0 (by omega)) ha (upok2 hbo hi16 hdl) rfl hi16 (by omega) hS1 hbb1, by rw [if_pos hdl]⟩
        clear hh
        have hh := hhE
        clear hhE
        refine then_normal ?_
        refine c_seq ?_
        refine c_region ?_
        refine wl (wl_val hl rfl trivial (r_move hl rfl) ?_)
        clear hl a; intro a hl
        refine wl (wl_val hl rfl trivial (r_move hl rfl) ?_)
        clear hl a; intro a hl
        refine wl (wl_val hl rfl trivial (r_nilCheck hl rfl) ?_)
        clear hl a; intro a hl
        refine wl (wl_val hl rfl trivial (r_field hl rfl fld118_2) ?_)
        clear hl a; intro a hl
        refine wl (wl_val hl rfl trivial (r_indexA hl rfl rfl arr50 (by omega) (by omega) (by first | (simp only [Int.reduceToNat]; rfl) | exact toNat_add1 _ | exact toNat_add2 _ _ | exact toNat_emod _ _ | exact Int.toNat_natCast _ | rfl)) ?_)
        clear hl a; intro a hl
        refine wl (w_load hl hh rfl trivial one37 rfl (by repeat (first | exact find_head | apply find_tail | apply find_skip)) (by first | exact bt_ended _ | exact bt_woken _ | exact bt_add _ hi16 | exact bt_del _ hi16 | exact bt_ep _ hi16 | exact fg_ep hi16 | rfl) ?_)
        clear hl a; intro a hl
        refine wl (wl_val hl rfl trivial (r_neq hl rfl rfl) ?_)
        clear hl a; intro a hl
        refine w_nil ?_
        have hl2 := hl.add (t := 0) (hl.add (t := 1) (hl.add (t := 2) (hl.add (t := 6) (hl.add (t := 58) (hl.nil) rfl) rfl) rfl) rfl) rfl; clear hl; have hl := hl2; clear hl2
        refine then_normal ?_
        refine c_cond hl rfl ?_ ?_
        · intro hc3
          try simp only [decide_eq_true_eq, decide_eq_false_iff_not, Bool.not_eq_true', Bool.not_eq_false', Bool.not_eq_true, Bool.not_eq_false, Bool.and_eq_true, Bool.or_eq_true, Bool.and_eq_false_iff, Bool.or_eq_false_iff, Bool.not_not, ne_eq, Int.not_lt, Int.not_le, Decidable.not_not, beq_iff_eq, bne_iff_ne] at hc3
          have hdA := mi_ne (by assumption)
          refine c_draw [(bb, C (arrL 50 (btV b)) 118)] [16] mixed hh ?_
          clear hh w; intro w hh
          have hM : Mem [(bb, C (arrL 50 (btV b)) 118)] w := (memK hh (by repeat (first | exact keeps_nil | apply keeps_cons (by repeat (first | exact find_head | apply find_tail | apply find_skip)) (by first  | rfl) | exact keeps_self | exact keeps_left | apply keeps_app | apply keeps_mv | apply keeps_skip)))
          refine d_take (i := 0) hl rfl (by kernel_rfl) (by kernel_rfl) (by kernel_rfl) (by kernel_rfl) (by kernel_rfl) rfl trivial (fun _ _ _ h => h) hM (fun w hC => r_move hl rfl) rfl ?_
          clear hl a; intro a hl
          refine d_take (i := 1) hl rfl (by kernel_rfl) (by kernel_rfl) (by kernel_rfl) (by kernel_rfl) (by kernel_rfl) rfl trivial (fun _ _ _ h => h) hM (fun w hC => r_move hl rfl) rfl ?_
          clear hl a; intro a hl
          refine d_take (i := 2) hl rfl (by kernel_rfl) (by kernel_rfl) (by kernel_rfl) (by kernel_rfl) (by kernel_rfl) rfl trivial (fun _ _ _ h => h) hM (fun w hC => r_move hl rfl) rfl ?_
          clear hl a; intro a hl
          refine d_take (i := 3) hl rfl (by kernel_rfl) (by kernel_rfl) (by kernel_rfl) (by kernel_rfl) (by kernel_rfl) rfl trivial (fun _ _ _ h => h) hM (fun w hC => r_move hl rfl) rfl ?_
          clear hl a; intro a hl
          refine d_take (i := 4) hl rfl (by kernel_rfl) (by kernel_rfl) (by kernel_rfl) (by kernel_rfl) (by kernel_rfl) rfl trivial (fun _ _ _ h => h) hM (fun w hC => r_move hl rfl) rfl ?_
          clear hl a; intro a hl
          refine d_take (i := 5) hl rfl (by kernel_rfl) (by kernel_rfl) (by kernel_rfl) (by kernel_rfl) (by kernel_rfl) rfl trivial (fun _ _ _ h => h) hM (fun w hC => r_nilCheck hl rfl) rfl ?_
          clear hl a; intro a hl
          refine d_take (i := 6) hl rfl (by kernel_rfl) (by kernel_rfl) (by kernel_rfl) (by kernel_rfl) (by kernel_rfl) rfl trivial (fun _ _ _ h => h) hM (fun w hC => r_field hl rfl fld118_4) rfl ?_
          clear hl a; intro a hl
          refine d_take (i := 7) hl rfl (by kernel_rfl) (by kernel_rfl) (by kernel_rfl) (by kernel_rfl) (by kernel_rfl) rfl trivial (fun _ _ _ h => h) hM (fun w hC => r_indexA hl rfl rfl arr43 (by omega) (by omega) (by first | (simp only [Int.reduceToNat]; rfl) | exact toNat_add1 _ | exact toNat_add2 _ _ | exact toNat_emod _ _ | exact Int.toNat_natCast _ | rfl)) rfl ?_
          clear hl a; intro a hl
          refine d_take (i := 8) hl rfl (by kernel_rfl) (by kernel_rfl) (by kernel_rfl) (by kernel_rfl) (by kernel_rfl) rfl trivial (fun _ _ _ h => h) hM (fun w hC => r_loadC hl rfl one42 hC (by repeat (first | exact find_head | apply find_tail | apply find_skip)) (by first | exact bt_ended _ | exact bt_woken _ | exact bt_add _ hi16 | exact bt_del _ hi16 | exact bt_ep _ hi16 | exact fg_ep hi16 | rfl)) rfl ?_
          clear hl a; intro a hl
          refine d_take (i := 9) hl rfl (by kernel_rfl) (by kernel_rfl) (by kernel_rfl) (by kernel_rfl) (by kernel_rfl) rfl trivial (fun _ _ _ h => h) hM (fun w hC => r_move hl rfl) rfl ?_
          clear hl a; intro a hl
          refine d_take (i := 10) hl rfl (by kernel_rfl) (by kernel_rfl) (by kernel_rfl) (by kernel_rfl) (by kernel_rfl) rfl trivial (fun _ _ _ h => h) hM (fun w hC => r_move hl rfl) rfl ?_
          clear hl a; intro a hl
          refine d_take (i := 11) hl rfl (by kernel_rfl) (by kernel_rfl) (by kernel_rfl) (by kernel_rfl) (by kernel_rfl) rfl trivial (fun _ _ _ h => h) hM (fun w hC => r_nilCheck hl rfl) rfl ?_
          clear hl a; intro a hl
          refine d_take (i := 12) hl rfl (by kernel_rfl) (by kernel_rfl) (by kernel_rfl) (by kernel_rfl) (by kernel_rfl) rfl trivial (fun _ _ _ h => h) hM (fun w hC => r_field hl rfl fld118_2) rfl ?_
          clear hl a; intro a hl
          refine d_take (i := 13) hl rfl (by kernel_rfl) (by kernel_rfl) (by kernel_rfl) (by kernel_rfl) (by kernel_rfl) rfl trivial (fun _ _ _ h => h) hM (fun w hC => r_indexA hl rfl rfl arr50 (by omega) (by omega) (by first | (simp only [Int.reduceToNat]; rfl) | exact toNat_add1 _ | exact toNat_add2 _ _ | exact toNat_emod _ _ | exact Int.toNat_natCast _ | rfl)) rfl ?_
          clear hl a; intro a hl
          refine d_take (i := 14) hl rfl (by kernel_rfl) (by kernel_rfl) (by kernel_rfl) (by kernel_rfl) (by kernel_rfl) rfl trivial (fun _ _ _ h => h) hM (fun w hC => r_loadC hl rfl one37 hC (by repeat (first | exact find_head | apply find_tail | apply find_skip)) (by first | exact bt_ended _ | exact bt_woken _ | exact bt_add _ hi16 | exact bt_del _ hi16 | exact bt_ep _ hi16 | exact fg_ep hi16 | rfl)) rfl ?_
          clear hl a; intro a hl
          refine d_take (i := 15) hl rfl (by kernel_rfl) (by kernel_rfl) (by kernel_rfl) (by kernel_rfl) (by kernel_rfl) rfl trivial (fun _ _ _ h => h) hM (fun w hC => r_build hl rfl zero160 bld160 (by simp only [fillL, setL, List.getElem?_cons_zero, List.getElem?_cons_succ, Value.cells, List.take_zero, List.take_succ_cons, List.take_nil, List.drop_zero, List.drop_succ_cons, List.drop_nil, List.length_cons, List.length_nil, List.cons_append, List.nil_append, List.append_nil, Nat.zero_add, Nat.add_zero, Nat.reduceAdd, Nat.reduceBEq, Nat.reduceEqDiff, Nat.ble, BEq.rfl, Bool.and_true, Bool.and_self, cond_true, beq_self_eq_true]; rfl)) rfl ?_
          clear hl a; intro a hl
          refine d_one (i := 16) (by kernel_rfl) rfl ?_
          try clear hM
          refine id (w_call hl hh rfl trivial rfl cal73 rfl (route_spec hH1.s bg tT tf (B + 2 * i + 1) Q (hqq 1 (by omega)) hH1.gi at_ ha ⟨1, i, b.ep i, b.add i⟩ hi16 (hbo.ep i hi16) (hH1.rm hi16 (by omega))) (by repeat (first | exact keeps_nil | apply keeps_cons (by repeat (first | exact find_head | apply find_tail | apply find_skip)) (by first  | rfl) | exact keeps_self | exact keeps_left | apply keeps_app | apply keeps_mv | apply keeps_skip)) (pt_call hh hpre (by repeat (first | exact keeps_nil | apply keeps_cons (by repeat (first | exact find_head | apply find_tail | apply find_skip)) (by first  | rfl) | exact keeps_self | exact keeps_left | apply keeps_app | apply keeps_mv | apply keeps_skip))) ?_)
          clear hl hh a w; intro vc Fc a w hR hl hh
          obtain ⟨rfl, M2, hF, hS2, hbb2⟩ := hR
          try simp only [List.cons_append, List.nil_append, List.append_assoc, List.append_nil] at hh
          subst hF
          refine d_step (fun h => absurd h (by decide)) ?_
          refine d_done (by kernel_rfl) ?_
          try clear hM
          have hl2 := hl.add (t := 0) (hl.add (t := 1) (hl.add (t := 2) (hl.add (t := 6) (hl.nil) rfl) rfl) rfl) rfl; clear hl; have hl := hl2; clear hl2
          obtain ⟨gE, ME, hhE, hIE⟩ : ∃ gE ME, Has (List.map Prod.fst ((bb, C (arrL 50 (btV b)) 118) :: sysL bg M)) w0 ((bb, C (arrL 50 (btV b)) 118) :: sysL bg ME) w ∧ PI B Q at_ b g M gE ME (i + 1) := ⟨_, _, hh.keep (by repeat (first | exact keeps_nil | apply keeps_cons (by repeat (first | exact find_head | apply find_tail | apply find_skip)) (by first  | rfl) | exact keeps_self | exact keeps_left | apply keeps_app | apply keeps_mv | apply keeps_skip)), (hH1.next (hqq 1 (by omega)) ha (upok1 hbo hi16 hdA) rfl hi16 (by omega) hS2 hbb2).fin (by omega) hi16 (by rw [publN, ← hI.eq]; unfold pub1; rw [if_neg (by simpa using hc1), if_pos hdA, ← hg1])⟩
          clear hh
          have hh := hhE
          clear hhE
          refine blk_normal ?_
          refine then_normal ?_
          refine c_region ?_
          refine wl (wl_val hl rfl trivial (r_move hl rfl) ?_)
          clear hl a; intro a hl
          first | refine wl (wl_val hl rfl trivial (r_add hl rfl rfl (by simp only [Fits]; omega)) ?_) | refine wl (wl_val hl rfl trivial (r_addW hl rfl rfl) ?_)
          clear hl a; intro a hl
          refine wl (wl_val hl rfl trivial (r_assign hl rfl) ?_)
          clear hl a; intro a hl
          refine w_nil ?_
          have hl2 := hl.add (t := 0) (hl.add (t := 1) (hl.add (t := 2) (hl.add (t := 6) (hl.nil) rfl) rfl) rfl) rfl; clear hl; have hl := hl2; clear hl2
          refine then_normal ?_
          refine ⟨⟨gE, ME, i + 1⟩, (by simp only; omega), ⟨by simp only; omega, hIE⟩, hl.addE (t := 6) (hl.addE (t := 0) (hl.addE (t := 1) (hl.addE (t := 2) (hl.nil) rfl (by first | rfl | (congr 1; omega))) rfl (by first | rfl | (congr 1; omega))) rfl (by first | rfl | (congr 1; omega))) rfl (by first | rfl | (congr 1; omega)), hh.keep (by repeat (first | exact keeps_nil | apply keeps_cons (by repeat (first | exact find_head | apply find_tail | apply find_skip)) (by first  | rfl) | exact keeps_self | exact keeps_left | apply keeps_app | apply keeps_mv | apply keeps_skip))⟩
        · intro hc3
          try simp only [decide_eq_true_eq, decide_eq_false_iff_not, Bool.not_eq_true', Bool.not_eq_false', Bool.not_eq_true, Bool.not_eq_false, Bool.and_eq_true, Bool.or_eq_true, Bool.and_eq_false_iff, Bool.or_eq_false_iff, Bool.not_not, ne_eq, Int.not_lt, Int.not_le, Decidable.not_not, beq_iff_eq, bne_iff_ne] at hc3
          have hdA : ¬ b.add i ≠ 0#16 := fun h => h ((mi_zero _).1 (by assumption))
          obtain ⟨gE, ME, hhE, hIE⟩ : ∃ gE ME, Has (List.map Prod.fst ((bb, C (arrL 50 (btV b)) 118) :: sysL bg M)) w0 ((bb, C (arrL 50 (btV b)) 118) :: sysL bg ME) w ∧ PI B Q at_ b g M gE ME (i + 1) := ⟨_, _, hh.keep (by repeat (first | exact keeps_nil | apply keeps_cons (by repeat (first | exact find_head | apply find_tail | apply find_skip)) (by first  | rfl) | exact keeps_self | exact keeps_left | apply keeps_app | apply keeps_mv | apply keeps_skip)), hH1.fin (by omega) hi16 (by rw [publN, ← hI.eq]; unfold pub1; rw [if_neg (by simpa using hc1), if_neg hdA]; exact hg1)⟩
          clear hh
          have hh := hhE
          clear hhE
          refine wp_skip ?_
          refine blk_normal ?_
          refine then_normal ?_
          refine c_region ?_
          refine wl (wl_val hl rfl trivial (r_move hl rfl) ?_)
          clear hl a; intro a hl
          first | refine wl (wl_val hl rfl trivial (r_add hl rfl rfl (by simp only [Fits]; omega)) ?_) | refine wl (wl_val hl rfl trivial (r_addW hl rfl rfl) ?_)
          clear hl a; intro a hl
          refine wl (wl_val hl rfl trivial (r_assign hl rfl) ?_)
          clear hl a; intro a hl
          refine w_nil ?_
          have hl2 := hl.add (t := 0) (hl.add (t := 1) (hl.add (t := 2) (hl.add (t := 6) (hl.nil) rfl) rfl) rfl) rfl; clear hl; have hl := hl2; clear hl2
          refine then_normal ?_
          refine ⟨⟨gE, ME, i + 1⟩, (by simp only; omega), ⟨by simp only; omega, hIE⟩, hl.addE (t := 6) (hl.addE (t := 0) (hl.addE (t := 1) (hl.addE (t := 2) (hl.nil) rfl (by first | rfl | (congr 1; omega))) rfl (by first | rfl | (congr 1; omega))) rfl (by first | rfl | (congr 1; omega))) rfl (by first | rfl | (congr 1; omega)), hh.keep (by repeat (first | exact keeps_nil | apply keeps_cons (by repeat (first | exact find_head | apply find_tail | apply find_skip)) (by first  | rfl) | exact keeps_self | exact keeps_left | apply keeps_app | apply keeps_mv | apply keeps_skip))⟩
      · intro hc2
        try simp only [decide_eq_true_eq, decide_eq_false_iff_not, Bool.not_eq_true', Bool.not_eq_false', Bool.not_eq_true, Bool.not_eq_false, Bool.and_eq_true, Bool.or_eq_true, Bool.and_eq_false_iff, Bool.or_eq_false_iff, Bool.not_not, ne_eq, Int.not_lt, Int.not_le, Decidable.not_not, beq_iff_eq, bne_iff_ne] at hc2
        have hdl : ¬ b.del i ≠ 0#16 := fun h => h ((mi_zero _).1 (by assumption))
        obtain ⟨g1, M1, hhE, hH1, hg1⟩ : ∃ g1 M1, Has (List.map Prod.fst ((bb, C (arrL 50 (btV b)) 118) :: sysL bg M)) w0 ((bb, C (arrL 50 (btV b)) 118) :: sysL bg M1) w ∧ PH B Q at_ M g1 M1 i 1 ∧ g1 = (if b.del i ≠ 0#16 then routeG z.g at_ ⟨2, i, b.ep i, b.del i⟩ else z.g) := ⟨z.g, z.M, hh, hH.up, by rw [if_neg hdl]⟩
        clear hh
        have hh := hhE
        clear hhE
        refine wp_skip ?_
        refine then_normal ?_
        refine c_seq ?_
        refine c_region ?_
        refine wl (wl_val hl rfl trivial (r_move hl rfl) ?_)
        clear hl a; intro a hl
        refine wl (wl_val hl rfl trivial (r_move hl rfl) ?_)
        clear hl a; intro a hl
        refine wl (wl_val hl rfl trivial (r_nilCheck hl rfl) ?_)
        clear hl a; intro a hl
        refine wl (wl_val hl rfl trivial (r_field hl rfl fld118_2) ?_)
        clear hl a; intro a hl
        refine wl (wl_val hl rfl trivial (r_indexA hl rfl rfl arr50 (by omega) (by omega) (by first | (simp only [Int.reduceToNat]; rfl) | exact toNat_add1 _ | exact toNat_add2 _ _ | exact toNat_emod _ _ | exact Int.toNat_natCast _ | rfl)) ?_)
        clear hl a; intro a hl
        refine wl (w_load hl hh rfl trivial one37 rfl (by repeat (first | exact find_head | apply find_tail | apply find_skip)) (by first | exact bt_ended _ | exact bt_woken _ | exact bt_add _ hi16 | exact bt_del _ hi16 | exact bt_ep _ hi16 | exact fg_ep hi16 | rfl) ?_)
        clear hl a; intro a hl
        refine wl (wl_val hl rfl trivial (r_neq hl rfl rfl) ?_)
        clear hl a; intro a hl
        refine w_nil ?_
        have hl2 := hl.add (t := 0) (hl.add (t := 1) (hl.add (t := 2) (hl.add (t := 6) (hl.add (t := 58) (hl.nil) rfl) rfl) rfl) rfl) rfl; clear hl; have hl := hl2; clear hl2
        refine then_normal ?_
        refine c_cond hl rfl ?_ ?_
        · intro hc3
          try simp only [decide_eq_true_eq, decide_eq_false_iff_not, Bool.not_eq_true', Bool.not_eq_false', Bool.not_eq_true, Bool.not_eq_false, Bool.and_eq_true, Bool.or_eq_true, Bool.and_eq_false_iff, Bool.or_eq_false_iff, Bool.not_not, ne_eq, Int.not_lt, Int.not_le, Decidable.not_not, beq_iff_eq, bne_iff_ne] at hc3
          have hdA := mi_ne (by assumption)
          refine c_draw [(bb, C (arrL 50 (btV b)) 118)] [16] mixed hh ?_
          clear hh w; intro w hh
          have hM : Mem [(bb, C (arrL 50 (btV b)) 118)] w := (memK hh (by repeat (first | exact keeps_nil | apply keeps_cons (by repeat (first | exact find_head | apply find_tail | apply find_skip)) (by first  | rfl) | exact keeps_self | exact keeps_left | apply keeps_app | apply keeps_mv | apply keeps_skip)))
          refine d_take (i := 0) hl rfl (by kernel_rfl) (by kernel_rfl) (by kernel_rfl) (by kernel_rfl) (by kernel_rfl) rfl trivial (fun _ _ _ h => h) hM (fun w hC => r_move hl rfl) rfl ?_
          clear hl a; intro a hl
          refine d_take (i := 1) hl rfl (by kernel_rfl) (by kernel_rfl) (by kernel_rfl) (by kernel_rfl) (by kernel_rfl) rfl trivial (fun _ _ _ h => h) hM (fun w hC => r_move hl rfl) rfl ?_
          clear hl a; intro a hl
          refine d_take (i := 2) hl rfl (by kernel_rfl) (by kernel_rfl) (by kernel_rfl) (by kernel_rfl) (by kernel_rfl) rfl trivial (fun _ _ _ h => h) hM (fun w hC => r_move hl rfl) rfl ?_
          clear hl a; intro a hl
          refine d_take (i := 3) hl rfl (by kernel_rfl) (by kernel_rfl) (by kernel_rfl) (by kernel_rfl) (by kernel_rfl) rfl trivial (fun _ _ _ h => h) hM (fun w hC => r_move hl rfl) rfl ?_
          clear hl a; intro a hl
          refine d_take (i := 4) hl rfl (by kernel_rfl) (by kernel_rfl) (by kernel_rfl) (by kernel_rfl) (by kernel_rfl) rfl trivial (fun _ _ _ h => h) hM (fun w hC => r_move hl rfl) rfl ?_
          clear hl a; intro a hl
          refine d_take (i := 5) hl rfl (by kernel_rfl) (by kernel_rfl) (by kernel_rfl) (by kernel_rfl) (by kernel_rfl) rfl trivial (fun _ _ _ h => h) hM (fun w hC => r_nilCheck hl rfl) rfl ?_
          clear hl a; intro a hl
          refine d_take (i := 6) hl rfl (by kernel_rfl) (by kernel_rfl) (by kernel_rfl) (by kernel_rfl) (by kernel_rfl) rfl trivial (fun _ _ _ h => h) hM (fun w hC => r_field hl rfl fld118_4) rfl ?_
          clear hl a; intro a hl
          refine d_take (i := 7) hl rfl (by kernel_rfl) (by kernel_rfl) (by kernel_rfl) (by kernel_rfl) (by kernel_rfl) rfl trivial (fun _ _ _ h => h) hM (fun w hC => r_indexA hl rfl rfl arr43 (by omega) (by omega) (by first | (simp only [Int.reduceToNat]; rfl) | exact toNat_add1 _ | exact toNat_add2 _ _ | exact toNat_emod _ _ | exact Int.toNat_natCast _ | rfl)) rfl ?_
          clear hl a; intro a hl
          refine d_take (i := 8) hl rfl (by kernel_rfl) (by kernel_rfl) (by kernel_rfl) (by kernel_rfl) (by kernel_rfl) rfl trivial (fun _ _ _ h => h) hM (fun w hC => r_loadC hl rfl one42 hC (by repeat (first | exact find_head | apply find_tail | apply find_skip)) (by first | exact bt_ended _ | exact bt_woken _ | exact bt_add _ hi16 | exact bt_del _ hi16 | exact bt_ep _ hi16 | exact fg_ep hi16 | rfl)) rfl ?_
          clear hl a; intro a hl
          refine d_take (i := 9) hl rfl (by kernel_rfl) (by kernel_rfl) (by kernel_rfl) (by kernel_rfl) (by kernel_rfl) rfl trivial (fun _ _ _ h => h) hM (fun w hC => r_move hl rfl) rfl ?_
          clear hl a; intro a hl
          refine d_take (i := 10) hl rfl (by kernel_rfl) (by kernel_rfl) (by kernel_rfl) (by kernel_rfl) (by kernel_rfl) rfl trivial (fun _ _ _ h => h) hM (fun w hC => r_move hl rfl) rfl ?_
          clear hl a; intro a hl
          refine d_take (i := 11) hl rfl (by kernel_rfl) (by kernel_rfl) (by kernel_rfl) (by kernel_rfl) (by kernel_rfl) rfl trivial (fun _ _ _ h => h) hM (fun w hC => r_nilCheck hl rfl) rfl ?_
          clear hl a; intro a hl
          refine d_take (i := 12) hl rfl (by kernel_rfl) (by kernel_rfl) (by kernel_rfl) (by kernel_rfl) (by kernel_rfl) rfl trivial (fun _ _ _ h => h) hM (fun w hC => r_field hl rfl fld118_2) rfl ?_
          clear hl a; intro a hl
          refine d_take (i := 13) hl rfl (by kernel_rfl) (by kernel_rfl) (by kernel_rfl) (by kernel_rfl) (by kernel_rfl) rfl trivial (fun _ _ _ h => h) hM (fun w hC => r_indexA hl rfl rfl arr50 (by omega) (by omega) (by first | (simp only [Int.reduceToNat]; rfl) | exact toNat_add1 _ | exact toNat_add2 _ _ | exact toNat_emod _ _ | exact Int.toNat_natCast _ | rfl)) rfl ?_
          clear hl a; intro a hl
          refine d_take (i := 14) hl rfl (by kernel_rfl) (by kernel_rfl) (by kernel_rfl) (by kernel_rfl) (by kernel_rfl) rfl trivial (fun _ _ _ h => h) hM (fun w hC => r_loadC hl rfl one37 hC (by repeat (first | exact find_head | apply find_tail | apply find_skip)) (by first | exact bt_ended _ | exact bt_woken _ | exact bt_add _ hi16 | exact bt_del _ hi16 | exact bt_ep _ hi16 | exact fg_ep hi16 | rfl)) rfl ?_
          clear hl a; intro a hl
          refine d_take (i := 15) hl rfl (by kernel_rfl) (by kernel_rfl) (by kernel_rfl) (by kernel_rfl) (by kernel_rfl) rfl trivial (fun _ _ _ h => h) hM (fun w hC => r_build hl rfl zero160 bld160 (by simp only [fillL, setL, List.getElem?_cons_zero, List.getElem?_cons_succ, Value.cells, List.take_zero, List.take_succ_cons, List.take_nil, List.drop_zero, List.drop_succ_cons, List.drop_nil, List.length_cons, List.length_nil, List.cons_append, List.nil_append, List.append_nil, Nat.zero_add, Nat.add_zero, Nat.reduceAdd, Nat.reduceBEq, Nat.reduceEqDiff, Nat.ble, BEq.rfl, Bool.and_true, Bool.and_self, cond_true, beq_self_eq_true]; rfl)) rfl ?_
          clear hl a; intro a hl
          refine d_one (i := 16) (by kernel_rfl) rfl ?_
          try clear hM
          refine id (w_call hl hh rfl trivial rfl cal73 rfl (route_spec hH1.s bg tT tf (B + 2 * i + 1) Q (hqq 1 (by omega)) hH1.gi at_ ha ⟨1, i, b.ep i, b.add i⟩ hi16 (hbo.ep i hi16) (hH1.rm hi16 (by omega))) (by repeat (first | exact keeps_nil | apply keeps_cons (by repeat (first | exact find_head | apply find_tail | apply find_skip)) (by first  | rfl) | exact keeps_self | exact keeps_left | apply keeps_app | apply keeps_mv | apply keeps_skip)) (pt_call hh hpre (by repeat (first | exact keeps_nil | apply keeps_cons (by repeat (first | exact find_head | apply find_tail | apply find_skip)) (by first  | rfl) | exact keeps_self | exact keeps_left | apply keeps_app | apply keeps_mv | apply keeps_skip))) ?_)
          clear hl hh a w; intro vc Fc a w hR hl hh
          obtain ⟨rfl, M2, hF, hS2, hbb2⟩ := hR
          try simp only [List.cons_append, List.nil_append, List.append_assoc, List.append_nil] at hh
          subst hF
          refine d_step (fun h => absurd h (by decide)) ?_
          refine d_done (by kernel_rfl) ?_
          try clear hM
          have hl2 := hl.add (t := 0) (hl.add (t := 1) (hl.add (t := 2) (hl.add (t := 6) (hl.nil) rfl) rfl) rfl) rfl; clear hl; have hl := hl2; clear hl2
          obtain ⟨gE, ME, hhE, hIE⟩ : ∃ gE ME, Has (List.map Prod.fst ((bb, C (arrL 50 (btV b)) 118) :: sysL bg M)) w0 ((bb, C (arrL 50 (btV b)) 118) :: sysL bg ME) w ∧ PI B Q at_ b g M gE ME (i + 1) := ⟨_, _, hh.keep (by repeat (first | exact keeps_nil | apply keeps_cons (by repeat (first | exact find_head | apply find_tail | apply find_skip)) (by first  | rfl) | exact keeps_self | exact keeps_left | apply keeps_app | apply keeps_mv | apply keeps_skip)), (hH1.next (hqq 1 (by omega)) ha (upok1 hbo hi16 hdA) rfl hi16 (by omega) hS2 hbb2).fin (by omega) hi16 (by rw [publN, ← hI.eq]; unfold pub1; rw [if_neg (by simpa using hc1), if_pos hdA, ← hg1])⟩
          clear hh
          have hh := hhE
          clear hhE
          refine blk_normal ?_
          refine then_normal ?_
          refine c_region ?_
          refine wl (wl_val hl rfl trivial (r_move hl rfl) ?_)
          clear hl a; intro a hl
          first | refine wl (wl_val hl rfl trivial (r_add hl rfl rfl (by simp only [Fits]; omega)) ?_) | refine wl (wl_val hl rfl trivial (r_addW hl rfl rfl) ?_)
          clear hl a; intro a hl
          refine wl (wl_val hl rfl trivial (r_assign hl rfl) ?_)
          clear hl a; intro a hl
          refine w_nil ?_
          have hl2 := hl.add (t := 0) (hl.add (t := 1) (hl.add (t := 2) (hl.add (t := 6) (hl.nil) rfl) rfl) rfl) rfl; clear hl; have hl := hl2; clear hl2
          refine then_normal ?_
          refine ⟨⟨gE, ME, i + 1⟩, (by simp only; omega), ⟨by simp only; omega, hIE⟩, hl.addE (t := 6) (hl.addE (t := 0) (hl.addE (t := 1) (hl.addE (t := 2) (hl.nil) rfl (by first | rfl | (congr 1; omega))) rfl (by first | rfl | (congr 1; omega))) rfl (by first | rfl | (congr 1; omega))) rfl (by first | rfl | (congr 1; omega)), hh.keep (by repeat (first | exact keeps_nil | apply keeps_cons (by repeat (first | exact find_head | apply find_tail | apply find_skip)) (by first  | rfl) | exact keeps_self | exact keeps_left | apply keeps_app | apply keeps_mv | apply keeps_skip))⟩
        · intro hc3
          try simp only [decide_eq_true_eq, decide_eq_false_iff_not, Bool.not_eq_true', Bool.not_eq_false', Bool.not_eq_true, Bool.not_eq_false, Bool.and_eq_true, Bool.or_eq_true, Bool.and_eq_false_iff, Bool.or_eq_false_iff, Bool.not_not, ne_eq, Int.not_lt, Int.not_le, Decidable.not_not, beq_iff_eq, bne_iff_ne] at hc3
          have hdA : ¬ b.add i ≠ 0#16 := fun h => h ((mi_zero _).1 (by assumption))
          obtain ⟨gE, ME, hhE, hIE⟩ : ∃ gE ME, Has (List.map Prod.fst ((bb, C (arrL 50 (btV b)) 118) :: sysL bg M)) w0 ((bb, C (arrL 50 (btV b)) 118) :: sysL bg ME) w ∧ PI B Q at_ b g M gE ME (i + 1) := ⟨_, _, hh.keep (by repeat (first | exact keeps_nil | apply keeps_cons (by repeat (first | exact find_head | apply find_tail | apply find_skip)) (by first  | rfl) | exact keeps_self | exact keeps_left | apply keeps_app | apply keeps_mv | apply keeps_skip)), hH1.fin (by omega) hi16 (by rw [publN, ← hI.eq]; unfold pub1; rw [if_neg (by simpa using hc1), if_neg hdA]; exact hg1)⟩
          clear hh
          have hh := hhE
          clear hhE
          refine wp_skip ?_
          refine blk_normal ?_
          refine then_normal ?_
          refine c_region ?_
          refine wl (wl_val hl rfl trivial (r_move hl rfl) ?_)
          clear hl a; intro a hl
          first | refine wl (wl_val hl rfl trivial (r_add hl rfl rfl (by simp only [Fits]; omega)) ?_) | refine wl (wl_val hl rfl trivial (r_addW hl rfl rfl) ?_)
          clear hl a; intro a hl
          refine wl (wl_val hl rfl trivial (r_assign hl rfl) ?_)
          clear hl a; intro a hl
          refine w_nil ?_
          have hl2 := hl.add (t := 0) (hl.add (t := 1) (hl.add (t := 2) (hl.add (t := 6) (hl.nil) rfl) rfl) rfl) rfl; clear hl; have hl := hl2; clear hl2
          refine then_normal ?_
          refine ⟨⟨gE, ME, i + 1⟩, (by simp only; omega), ⟨by simp only; omega, hIE⟩, hl.addE (t := 6) (hl.addE (t := 0) (hl.addE (t := 1) (hl.addE (t := 2) (hl.nil) rfl (by first | rfl | (congr 1; omega))) rfl (by first | rfl | (congr 1; omega))) rfl (by first | rfl | (congr 1; omega))) rfl (by first | rfl | (congr 1; omega)), hh.keep (by repeat (first | exact keeps_nil | apply keeps_cons (by repeat (first | exact find_head | apply find_tail | apply find_skip)) (by first  | rfl) | exact keeps_self | exact keeps_left | apply keeps_app | apply keeps_mv | apply keeps_skip))⟩
  · intro hc0
    try simp only [decide_eq_true_eq, decide_eq_false_iff_not, Bool.not_eq_true', Bool.not_eq_false', Bool.not_eq_true, Bool.not_eq_false, Bool.and_eq_true, Bool.or_eq_true, Bool.and_eq_false_iff, Bool.or_eq_false_iff, Bool.not_not, ne_eq, Int.not_lt, Int.not_le, Decidable.not_not, beq_iff_eq, bne_iff_ne] at hc0
    have hi9 : i = 16 := by omega
    rw [hi9] at hI
    refine wp_exit ?_
    refine then_exit ?_
    refine then_exit ?_
    refine blk_exit ?_
    refine f_end0 (F' := ((bb, C (arrL 50 (btV b)) 118) :: sysL bg z.M)) hl hh rfl (by repeat (first | exact keeps_nil | apply keeps_cons (by repeat (first | exact find_head | apply find_tail | apply find_skip)) (by first  | rfl) | exact keeps_self | exact keeps_left | apply keeps_app | apply keeps_mv | apply keeps_skip)) ?_
    have he := hI.eq
    rw [← he]
    exact ⟨rfl, z.M, rfl, hI⟩
end Go.Proofs.Qxb6500911aGreatDoor

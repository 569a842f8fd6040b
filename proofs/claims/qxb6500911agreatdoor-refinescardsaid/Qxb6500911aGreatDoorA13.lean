import Derived.Test.Qxb6500911aGreatDoorA12
namespace Go.Proofs.Qxb6500911aGreatDoor
open Go.Eng
set_option linter.unusedVariables false
set_option linter.unusedSimpArgs false
theorem fld118_0 : fieldOk Tryz.prog 118 0 0 = true := by kernel_rfl
theorem fld94_2 : fieldOk Tryz.prog 94 2 2 = true := by kernel_rfl
theorem fld118_4 : fieldOk Tryz.prog 118 4 34 = true := by kernel_rfl
theorem cal71 : callable Tryz.prog 71 = true := by kernel_rfl
theorem fld118_1 : fieldOk Tryz.prog 118 1 1 = true := by kernel_rfl
theorem fld94_1 : fieldOk Tryz.prog 94 1 1 = true := by kernel_rfl
theorem one26 : oneOk Tryz.prog 26 = true := by kernel_rfl
theorem cal72 : callable Tryz.prog 72 = true := by kernel_rfl
theorem fld118_2 : fieldOk Tryz.prog 118 2 2 = true := by kernel_rfl
theorem fld118_3 : fieldOk Tryz.prog 118 3 18 = true := by kernel_rfl
/-! ## the graph's block, the batch -/
def flK (fz : Nat → Int) (c q : Nat) : Int := if q % 4 = c then fz q else 0
def wsK (ws : Nat → List Wt) (c q : Nat) : List Wt := if q % 4 = c then ws q else []
structure GrF (ep flr : Nat → Int) (ws : Nat → List Wt) (bm bt : Nat) (f : Nat → Value) (E : Nat → List (Nat × Obj)) : Prop where
  p0 : f 0 = .pointer (some ⟨bm, 0, none⟩)
  p1 : f 1 = .pointer (some ⟨bt, 0, none⟩)
  ep : ∀ t, t < 16 → f (2 + t) = .int .u64 (ep t)
  sh : ∀ c q, c < 4 → q < 16 → ShR f c q (flK flr c q) (wsK ws c q) (E (16 * c + q))
def grL (bg : Nat) (f : Nat → Value) (E : Nat → List (Nat × Obj)) : List (Nat × Obj) := (bg, C (arrL 146 f) 94) :: fam E 64
def fgE (f : Nat → Value) (ep : Nat → Int) : Nat → Value := fun j => if 2 ≤ j ∧ j < 18 then .int .u64 (ep (j - 2)) else f j
theorem fgE_out (f : Nat → Value) (ep : Nat → Int) {j : Nat} (h : j < 2 ∨ 18 ≤ j) : fgE f ep j = f j := if_neg (by omega)
theorem fgE_in (f : Nat → Value) (ep : Nat → Int) {t : Nat} (h : t < 16) : fgE f ep (2 + t) = .int .u64 (ep t) := by
  unfold fgE; rw [if_pos (by omega), show 2 + t - 2 = t by omega]
theorem GrF.blk {ep flr : Nat → Int} {ws : Nat → List Wt} {bm bt : Nat} {f : Nat → Value} {E : Nat → List (Nat × Obj)} (h : GrF ep flr ws bm bt f E) : arrL 146 f = arrL 146 (fgE f ep) := by
  refine arrL_congr fun j hj => ?_
  by_cases c : 2 ≤ j ∧ j < 18
  · have := h.ep (j - 2) (by omega)
    rw [show 2 + (j - 2) = j by omega] at this
    rw [this]; unfold fgE; rw [if_pos c]
  · rw [fgE_out _ _ (by omega)]
theorem GrF.setEp {ep ep' flr : Nat → Int} {ws : Nat → List Wt} {bm bt : Nat} {f : Nat → Value} {E : Nat → List (Nat × Obj)} (h : GrF ep flr ws bm bt f E) : GrF ep' flr ws bm bt (fgE f ep') E :=
  ⟨by rw [fgE_out _ _ (by omega)]; exact h.p0, by rw [fgE_out _ _ (by omega)]; exact h.p1, fun t ht => fgE_in _ _ ht, fun c q hc hq => ⟨by rw [fgE_out _ _ (by omega)]; exact (h.sh c q hc hq).flr, by rw [fgE_out _ _ (by omega)]; exact (h.sh c q hc hq).row⟩⟩
theorem fg_p0 {f : Nat → Value} {bm : Nat} (h : f 0 = .pointer (some ⟨bm, 0, none⟩)) : (arrL 146 f)[0 + 0]? = some (.pointer (some ⟨bm, 0, none⟩)) := by rw [arrL_get (by omega), h]
theorem fg_p1 {f : Nat → Value} {bt : Nat} (h : f 1 = .pointer (some ⟨bt, 0, none⟩)) : (arrL 146 f)[0 + 1]? = some (.pointer (some ⟨bt, 0, none⟩)) := by rw [arrL_get (by omega), h]
theorem fg_ep {f : Nat → Value} {ep : Nat → Int} {t : Nat} (ht : t < 16) : (arrL 146 (fgE f ep))[0 + 2 + t * 1]? = some (.int .u64 (ep t)) := by
  rw [show 0 + 2 + t * 1 = 2 + t by omega, arrL_get (by omega), fgE_in _ _ ht]
theorem fg_ep' {f : Nat → Value} {ep : Nat → Int} {t : Nat} (h : ∀ t, t < 16 → f (2 + t) = .int .u64 (ep t)) (ht : t < 16) : (arrL 146 f)[0 + 2 + t * 1]? = some (.int .u64 (ep t)) := by
  rw [show 0 + 2 + t * 1 = 2 + t by omega, arrL_get (by omega), h t ht]
def updI (f : Nat → Int) (i : Nat) (v : Int) : Nat → Int := fun j => if j = i then v else f j
theorem set_ep {f : Nat → Value} {ep : Nat → Int} {t : Nat} {v : Int} (ht : t < 16) : setL (arrL 146 (fgE f ep)) (0 + 2 + t * 1) [.int .u64 v] = arrL 146 (fgE f (updI ep t v)) := by
  rw [show 0 + 2 + t * 1 = 2 + t by omega, arrL_set (by omega)]
  refine arrL_congr fun j hj => ?_
  unfold updV fgE updI
  by_cases c : j = 2 + t
  · subst c; rw [if_pos rfl, if_pos (by omega), if_pos (by omega)]
  · rw [if_neg c]
    by_cases c2 : 2 ≤ j ∧ j < 18
    · rw [if_pos c2, if_pos c2, if_neg (by omega)]
    · rw [if_neg c2, if_neg c2]
structure Bt where
  ended : BitVec 16
  woken : BitVec 16
  add : Nat → BitVec 16
  del : Nat → BitVec 16
  ep : Nat → Int
def btV (b : Bt) : Nat → Value := fun j => if j = 0 then .int .u16 (mi b.ended) else if j = 1 then .int .u16 (mi b.woken) else if j < 18 then .int .u16 (mi (b.add (j - 2))) else if j < 34 then .int .u16 (mi (b.del (j - 18))) else .int .u64 (b.ep (j - 34))
def btC (b : Bt) : Obj := C (arrL 50 (btV b)) 118
def bt0 : Bt := ⟨0#16, 0#16, fun _ => 0#16, fun _ => 0#16, fun _ => 0⟩
def updB (f : Nat → BitVec 16) (i : Nat) (v : BitVec 16) : Nat → BitVec 16 := fun j => if j = i then v else f j
theorem bt_ended (b : Bt) : (arrL 50 (btV b))[0 + 0]? = some (.int .u16 (mi b.ended)) := by rw [arrL_get (by omega)]; rfl
theorem bt_woken (b : Bt) : (arrL 50 (btV b))[0 + 1]? = some (.int .u16 (mi b.woken)) := by rw [arrL_get (by omega)]; rfl
theorem bt_add (b : Bt) {t : Nat} (h : t < 16) : (arrL 50 (btV b))[0 + 2 + t * 1]? = some (.int .u16 (mi (b.add t))) := by
  rw [show 0 + 2 + t * 1 = 2 + t by omega, arrL_get (by omega)]; unfold btV; rw [if_neg (by omega), if_neg (by omega), if_pos (by omega), show 2 + t - 2 = t by omega]
theorem bt_del (b : Bt) {t : Nat} (h : t < 16) : (arrL 50 (btV b))[0 + 18 + t * 1]? = some (.int .u16 (mi (b.del t))) := by
  rw [show 0 + 18 + t * 1 = 18 + t by omega, arrL_get (by omega)]; unfold btV; rw [if_neg (by omega), if_neg (by omega), if_neg (by omega), if_pos (by omega), show 18 + t - 18 = t by omega]
theorem bt_ep (b : Bt) {t : Nat} (h : t < 16) : (arrL 50 (btV b))[0 + 34 + t * 1]? = some (.int .u64 (b.ep t)) := by
  rw [show 0 + 34 + t * 1 = 34 + t by omega, arrL_get (by omega)]; unfold btV; rw [if_neg (by omega), if_neg (by omega), if_neg (by omega), if_neg (by omega), show 34 + t - 34 = t by omega]
theorem bt_sEnded (b : Bt) {m : BitVec 16} : setL (arrL 50 (btV b)) (0 + 0) [.int .u16 (mi m)] = arrL 50 (btV { b with ended := m }) := by
  rw [arrL_set (by omega)]
  refine arrL_congr fun j _ => ?_
  unfold updV btV
  by_cases c : j = 0
  · subst c; rfl
  · rw [if_neg (by omega)]; simp only [if_neg c]
theorem bt_sWoken (b : Bt) {m : BitVec 16} : setL (arrL 50 (btV b)) (0 + 1) [.int .u16 (mi m)] = arrL 50 (btV { b with woken := m }) := by
  rw [arrL_set (by omega)]
  refine arrL_congr fun j _ => ?_
  unfold updV btV
  by_cases c : j = 1
  · subst c; rfl
  · rw [if_neg (by omega)]; simp only [if_neg c]
theorem bt_sAdd (b : Bt) {t : Nat} {m : BitVec 16} (h : t < 16) : setL (arrL 50 (btV b)) (0 + 2 + t * 1) [.int .u16 (mi m)] = arrL 50 (btV { b with add := updB b.add t m }) := by
  rw [show 0 + 2 + t * 1 = 2 + t by omega, arrL_set (by omega)]
  refine arrL_congr fun j _ => ?_
  unfold updV btV updB
  by_cases c : j = 2 + t
  · subst c; simp [show ¬ (2 + t = 0) by omega, show ¬ (2 + t = 1) by omega, show 2 + t < 18 by omega]
  · rw [if_neg c]; (repeat' split) <;> first | rfl | (exfalso; omega) | (rw [if_neg (by omega)]) | (dsimp only; rw [if_neg (by omega)])
theorem bt_sDel (b : Bt) {t : Nat} {m : BitVec 16} (h : t < 16) : setL (arrL 50 (btV b)) (0 + 18 + t * 1) [.int .u16 (mi m)] = arrL 50 (btV { b with del := updB b.del t m }) := by
  rw [show 0 + 18 + t * 1 = 18 + t by omega, arrL_set (by omega)]
  refine arrL_congr fun j _ => ?_
  unfold updV btV updB
  by_cases c : j = 18 + t
  · subst c; simp [show ¬ (18 + t = 0) by omega, show ¬ (18 + t = 1) by omega, show ¬ (18 + t < 18) by omega, show 18 + t < 34 by omega]
  · rw [if_neg c]; (repeat' split) <;> first | rfl | (exfalso; omega) | (rw [if_neg (by omega)]) | (dsimp only; rw [if_neg (by omega)])
theorem bt_sEp (b : Bt) {t : Nat} {v : Int} (h : t < 16) : setL (arrL 50 (btV b)) (0 + 34 + t * 1) [.int .u64 v] = arrL 50 (btV { b with ep := updI b.ep t v }) := by
  rw [show 0 + 34 + t * 1 = 34 + t by omega, arrL_set (by omega)]
  refine arrL_congr fun j _ => ?_
  unfold updV btV updI
  by_cases c : j = 34 + t
  · subst c; simp [show ¬ (34 + t = 0) by omega, show ¬ (34 + t = 1) by omega, show ¬ (34 + t < 18) by omega, show ¬ (34 + t < 34) by omega]
  · rw [if_neg c]; (repeat' split) <;> first | rfl | (exfalso; omega) | (rw [if_neg (by omega)]) | (dsimp only; rw [if_neg (by omega)])
def endB (b : Bt) (ep : Nat → Int) (w : Nat) : Bt := { b with ended := b.ended ||| bitB w, ep := updI b.ep w (ep w) }
def wokB (b : Bt) (w : Nat) : Bt := { b with woken := b.woken ||| bitB w }
def hcA1 (z : (Nat → Int) × Bt) (w : Nat) : (Nat → Int) × Bt := (updI z.1 w (z.1 w + 1), wokB (endB z.2 z.1 w) w)
def hcA (z : (Nat → Int) × Bt) (wk : List Nat) : (Nat → Int) × Bt := wk.foldl hcA1 z
def hcB1 (ep : Nat → Int) (came went : BitVec 16) (b : Bt) (w : Nat) : Bt := { b with ep := updI b.ep w (ep w), add := updB b.add w (b.add w ||| (came &&& ~~~ bitB w)), del := updB b.del w (b.del w ||| (went &&& ~~~ bitB w)) }
def hcB (ep : Nat → Int) (came went : BitVec 16) (b : Bt) (ws : List Nat) : Bt := ws.foldl (hcB1 ep came went) b
def hcP (tb : Tab) (r : Nat) (before : BitVec 16) (z : (Nat → Int) × Bt) (wk : List Nat) : (Nat → Int) × Bt :=
  if holdB tb r &&& ~~~ before = 0#16 ∧ before &&& ~~~ holdB tb r = 0#16 then hcA z wk else ((hcA z wk).1, hcB (hcA z wk).1 (holdB tb r &&& ~~~ before) (before &&& ~~~ holdB tb r) (hcA z wk).2 ((tb.q r).map (·.t)))
theorem hcA_snoc {z : (Nat → Int) × Bt} {wk : List Nat} {i t : Nat} (h : wk[i]? = some t) : hcA z (wk.take (i + 1)) = hcA1 (hcA z (wk.take i)) t := by
  unfold hcA; rw [List.take_add_one, h, List.foldl_append]; rfl
theorem hcB_snoc {ep : Nat → Int} {came went : BitVec 16} {b : Bt} {wk : List Nat} {i t : Nat} (h : wk[i]? = some t) : hcB ep came went b (wk.take (i + 1)) = hcB1 ep came went (hcB ep came went b (wk.take i)) t := by
  unfold hcB; rw [List.take_add_one, h, List.foldl_append]; rfl
theorem hc_o1 {f : Nat → Value} {ep ze : Nat → Int} {b zb : Bt} {wk : List Nat} {i tk : Nat} (h : wk[i]? = some tk) (hz : (ze, zb) = hcA (ep, b) (wk.take i)) : C (arrL 146 (fgE f (updI ze tk (ze tk + 1)))) 94 = C (arrL 146 (fgE f (hcA (ep, b) (wk.take (i + 1))).1)) 94 := by
  rw [hcA_snoc h, ← hz]; rfl
theorem hc_o2 {ep ze : Nat → Int} {b zb : Bt} {wk : List Nat} {i tk : Nat} (h : wk[i]? = some tk) (hz : (ze, zb) = hcA (ep, b) (wk.take i)) : C (arrL 50 (btV { endB zb ze tk with woken := (endB zb ze tk).woken ||| bitB tk })) 118 = C (arrL 50 (btV (hcA (ep, b) (wk.take (i + 1))).2)) 118 := by
  rw [hcA_snoc h, ← hz]; rfl
theorem hc_o3 {ze : Nat → Int} {ca we : BitVec 16} {zb zc : Bt} {qs : List Nat} {j ty : Nat} (h : qs[j]? = some ty) (hz : zc = hcB ze ca we zb (qs.take j)) : C (arrL 50 (btV { zc with ep := updI zc.ep ty (ze ty), add := updB zc.add ty (zc.add ty ||| (ca &&& ~~~ bitB ty)), del := updB zc.del ty (zc.del ty ||| (we &&& ~~~ bitB ty)) })) 118 = C (arrL 50 (btV (hcB ze ca we zb (qs.take (j + 1))))) 118 := by
  rw [hcB_snoc h, ← hz]; rfl
structure EpI (Q : Int) (ep : Nat → Int) : Prop where
  bd : ∀ t, t < 16 → 0 ≤ ep t ∧ ep t ≤ Q
theorem EpI.up {Q : Int} {ep : Nat → Int} (h : EpI Q ep) (w : Nat) : EpI (Q + 1) (updI ep w (ep w + 1)) := ⟨fun t ht => by
  unfold updI
  have := h.bd t ht
  split
  · rename_i c; subst c; omega
  · omega⟩
theorem EpI.mono {Q Q' : Int} {ep : Nat → Int} (h : EpI Q ep) (hq : Q ≤ Q') : EpI Q' ep := ⟨fun t ht => by have := h.bd t ht; omega⟩
theorem hcA_ep : ∀ (wk : List Nat) {Q : Int} {z : (Nat → Int) × Bt}, EpI Q z.1 → EpI (Q + wk.length) (hcA z wk).1
  | [], Q, z, h => by simpa [hcA] using h
  | w :: wk, Q, z, h => by
    have := hcA_ep wk (z := hcA1 z w) (h.up w)
    rw [List.length_cons]
    exact this.mono (by omega)


set_option maxHeartbeats 1000000 in
theorem endWait_spec (f : Nat → Value) (ep : Nat → Int) (b : Bt) (bg bb q : Nat) (hq : q < 16) (he : 0 ≤ ep q ∧ ep q ≤ 1000000000000) : Sp Tryz.prog 71 #[.pointer (some ⟨bg, 0, none⟩), .pointer (some ⟨bb, 0, none⟩), .int .i64 (q : Int)] [(bg, C (arrL 146 (fgE f ep)) 94), (bb, C (arrL 50 (btV b)) 118)] (fun v F' => v = .tuple #[] ∧ F' = [(bg, C (arrL 146 (fgE f (updI ep q (ep q + 1)))) 94), (bb, C (arrL 50 (btV (endB b ep q))) 118)]) := by
  refine f_enter (args := [.pointer (some ⟨bg, 0, none⟩), .pointer (some ⟨bb, 0, none⟩), .int .i64 (q : Int)]) Tryz.func71 rfl Tryz.ntmps71 rfl ?_
  intro w0 w a hpre hl hh
  simp only [slotsFrom, Nat.reduceAdd] at hl
  refine c_seq ?_
  refine c_draw [(bb, C (arrL 50 (btV b)) 118)] [6, 7, 8, 9] mixed hh ?_
  clear hh w; intro w hh
  have hM : Mem [(bb, C (arrL 50 (btV b)) 118)] w := (memK hh (by repeat (first | exact keeps_nil | apply keeps_cons (by repeat (first | exact find_head | apply find_tail | apply find_skip)) (by first  | rfl) | exact keeps_self | exact keeps_left | apply keeps_app | apply keeps_mv | apply keeps_skip)))
  refine d_take (i := 0) hl rfl (by kernel_rfl) (by kernel_rfl) (by kernel_rfl) (by kernel_rfl) (by kernel_rfl) rfl trivial (fun _ _ _ h => h) hM (fun w hC => r_move hl rfl) rfl ?_
  clear hl a; intro a hl
  refine d_take (i := 1) hl rfl (by kernel_rfl) (by kernel_rfl) (by kernel_rfl) (by kernel_rfl) (by kernel_rfl) rfl trivial (fun _ _ _ h => h) hM (fun w hC => r_nilCheck hl rfl) rfl ?_
  clear hl a; intro a hl
  refine d_take (i := 2) hl rfl (by kernel_rfl) (by kernel_rfl) (by kernel_rfl) (by kernel_rfl) (by kernel_rfl) rfl trivial (fun _ _ _ h => h) hM (fun w hC => r_field hl rfl fld118_0) rfl ?_
  clear hl a; intro a hl
  refine d_take (i := 3) hl rfl (by kernel_rfl) (by kernel_rfl) (by kernel_rfl) (by kernel_rfl) (by kernel_rfl) rfl trivial (fun _ _ _ h => h) hM (fun w hC => r_loadC hl rfl one37 hC (by repeat (first | exact find_head | apply find_tail | apply find_skip)) (by first | exact bt_ended _ | exact bt_woken _ | exact bt_add _ hq | exact bt_del _ hq | exact bt_ep _ hq | exact fg_ep hq | rfl)) rfl ?_
  clear hl a; intro a hl
  refine d_take (i := 4) hl rfl (by kernel_rfl) (by kernel_rfl) (by kernel_rfl) (by kernel_rfl) (by kernel_rfl) rfl trivial (fun _ _ _ h => h) hM (fun w hC => r_move hl rfl) rfl ?_
  clear hl a; intro a hl
  refine d_one (i := 5) (by kernel_rfl) rfl ?_
  try clear hM
  refine id (w_call hl hh rfl trivial rfl cal32 rfl (bit_spec q hq) (by repeat (first | exact keeps_nil | apply keeps_cons (by repeat (first | exact find_head | apply find_tail | apply find_skip)) (by first  | rfl) | exact keeps_self | exact keeps_left | apply keeps_app | apply keeps_mv | apply keeps_skip)) trivial ?_)
  clear hl hh a w; intro vc Fc a w hR hl hh
  obtain ⟨rfl, rfl⟩ := hR
  try simp only [List.cons_append, List.nil_append, List.append_assoc, List.append_nil] at hh
  have hM : Mem [(bb, C (arrL 50 (btV b)) 118)] w := (memK hh (by repeat (first | exact keeps_nil | apply keeps_cons (by repeat (first | exact find_head | apply find_tail | apply find_skip)) (by first  | rfl) | exact keeps_self | exact keeps_left | apply keeps_app | apply keeps_mv | apply keeps_skip)))
  refine d_step (fun _ => hM) ?_
  refine d_takeL (i := 6) hl rfl (by kernel_rfl) (by kernel_rfl) (by kernel_rfl) (by kernel_rfl) (by kernel_rfl) rfl trivial (fun _ _ _ h => h) (fun w => r_or hl rfl rfl) rfl ?_
  clear hl a; intro a hl
  rw [or_mi] at hl
  refine d_takeL (i := 7) hl rfl (by kernel_rfl) (by kernel_rfl) (by kernel_rfl) (by kernel_rfl) (by kernel_rfl) rfl trivial (fun _ _ _ h => h) (fun w => r_nilCheck hl rfl) rfl ?_
  clear hl a; intro a hl
  refine d_takeL (i := 8) hl rfl (by kernel_rfl) (by kernel_rfl) (by kernel_rfl) (by kernel_rfl) (by kernel_rfl) rfl trivial (fun _ _ _ h => h) (fun w => r_field hl rfl fld118_0) rfl ?_
  clear hl a; intro a hl
  refine d_one (i := 9) (by kernel_rfl) rfl ?_
  try clear hM
  refine id (w_store hl hh trivial one37 rfl rfl (by repeat (first | exact find_head | apply find_tail | apply find_skip)) (by first | (simp; done) | (simp; omega) | (rw [arrL_length]; omega)) (by first | rfl | assumption | (apply Row.one; assumption)) (by first | exact bt_sEnded _ | exact bt_sWoken _ | exact bt_sAdd _ hq | exact bt_sDel _ hq | exact bt_sEp _ hq | exact set_ep hq | (simp only [setL, List.getElem?_cons_zero, List.getElem?_cons_succ, Value.cells, List.take_zero, List.take_succ_cons, List.take_nil, List.drop_zero, List.drop_succ_cons, List.drop_nil, List.length_cons, List.length_nil, List.cons_append, List.nil_append, List.append_nil, Nat.zero_add, Nat.add_zero, Nat.reduceAdd, Nat.reduceBEq, Nat.reduceEqDiff, Nat.ble, BEq.rfl, Bool.and_true, Bool.and_self, cond_true, beq_self_eq_true]; rfl)) ?_)
  clear hh w; intro w hh
  refine d_step (fun h => absurd h (by decide)) ?_
  refine d_done (by kernel_rfl) ?_
  try clear hM
  have hl2 := hl.add (t := 0) (hl.add (t := 1) (hl.add (t := 2) (hl.nil) rfl) rfl) rfl; clear hl; have hl := hl2; clear hl2
  refine then_normal ?_
  refine c_seq ?_
  refine c_draw [(bg, C (arrL 146 (fgE f ep)) 94)] [10, 11] mixed hh ?_
  clear hh w; intro w hh
  have hM : Mem [(bg, C (arrL 146 (fgE f ep)) 94)] w := (memK hh (by repeat (first | exact keeps_nil | apply keeps_cons (by repeat (first | exact find_head | apply find_tail | apply find_skip)) (by first  | rfl) | exact keeps_self | exact keeps_left | apply keeps_app | apply keeps_mv | apply keeps_skip)))
  refine d_take (i := 0) hl rfl (by kernel_rfl) (by kernel_rfl) (by kernel_rfl) (by kernel_rfl) (by kernel_rfl) rfl trivial (fun _ _ _ h => h) hM (fun w hC => r_move hl rfl) rfl ?_
  clear hl a; intro a hl
  refine d_take (i := 1) hl rfl (by kernel_rfl) (by kernel_rfl) (by kernel_rfl) (by kernel_rfl) (by kernel_rfl) rfl trivial (fun _ _ _ h => h) hM (fun w hC => r_move hl rfl) rfl ?_
  clear hl a; intro a hl
  refine d_take (i := 2) hl rfl (by kernel_rfl) (by kernel_rfl) (by kernel_rfl) (by kernel_rfl) (by kernel_rfl) rfl trivial (fun _ _ _ h => h) hM (fun w hC => r_move hl rfl) rfl ?_
  clear hl a; intro a hl
  refine d_take (i := 3) hl rfl (by kernel_rfl) (by kernel_rfl) (by kernel_rfl) (by kernel_rfl) (by kernel_rfl) rfl trivial (fun _ _ _ h => h) hM (fun w hC => r_move hl rfl) rfl ?_
  clear hl a; intro a hl
  refine d_take (i := 4) hl rfl (by kernel_rfl) (by kernel_rfl) (by kernel_rfl) (by kernel_rfl) (by kernel_rfl) rfl trivial (fun _ _ _ h => h) hM (fun w hC => r_nilCheck hl rfl) rfl ?_
  clear hl a; intro a hl
  refine d_take (i := 5) hl rfl (by kernel_rfl) (by kernel_rfl) (by kernel_rfl) (by kernel_rfl) (by kernel_rfl) rfl trivial (fun _ _ _ h => h) hM (fun w hC => r_field hl rfl fld94_2) rfl ?_
  clear hl a; intro a hl
  refine d_take (i := 6) hl rfl (by kernel_rfl) (by kernel_rfl) (by kernel_rfl) (by kernel_rfl) (by kernel_rfl) rfl trivial (fun _ _ _ h => h) hM (fun w hC => r_indexA hl rfl rfl arr43 (by omega) (by omega) (by first | (simp only [Int.reduceToNat]; rfl) | exact toNat_add1 _ | exact toNat_add2 _ _ | exact toNat_emod _ _ | exact Int.toNat_natCast _ | rfl)) rfl ?_
  clear hl a; intro a hl
  refine d_take (i := 7) hl rfl (by kernel_rfl) (by kernel_rfl) (by kernel_rfl) (by kernel_rfl) (by kernel_rfl) rfl trivial (fun _ _ _ h => h) hM (fun w hC => r_loadC hl rfl one42 hC (by repeat (first | exact find_head | apply find_tail | apply find_skip)) (by first | exact bt_ended _ | exact bt_woken _ | exact bt_add _ hq | exact bt_del _ hq | exact bt_ep _ hq | exact fg_ep hq | rfl)) rfl ?_
  clear hl a; intro a hl
  refine d_take (i := 8) hl rfl (by kernel_rfl) (by kernel_rfl) (by kernel_rfl) (by kernel_rfl) (by kernel_rfl) rfl trivial (fun _ _ _ h => h) hM (fun w hC => r_nilCheck hl rfl) rfl ?_
  clear hl a; intro a hl
  refine d_take (i := 9) hl rfl (by kernel_rfl) (by kernel_rfl) (by kernel_rfl) (by kernel_rfl) (by kernel_rfl) rfl trivial (fun _ _ _ h => h) hM (fun w hC => r_field hl rfl fld118_4) rfl ?_
  clear hl a; intro a hl
  refine d_takeL (i := 10) hl rfl (by kernel_rfl) (by kernel_rfl) (by kernel_rfl) (by kernel_rfl) (by kernel_rfl) rfl trivial (fun _ _ _ h => h) (fun w => r_indexA hl rfl rfl arr43 (by omega) (by omega) (by first | (simp only [Int.reduceToNat]; rfl) | exact toNat_add1 _ | exact toNat_add2 _ _ | exact toNat_emod _ _ | exact Int.toNat_natCast _ | rfl)) rfl ?_
  clear hl a; intro a hl
  refine d_one (i := 11) (by kernel_rfl) rfl ?_
  try clear hM
  refine id (w_store hl hh trivial one42 rfl rfl (by repeat (first | exact find_head | apply find_tail | apply find_skip)) (by first | (simp; done) | (simp; omega) | (rw [arrL_length]; omega)) (by first | rfl | assumption | (apply Row.one; assumption)) (by first | exact bt_sEnded _ | exact bt_sWoken _ | exact bt_sAdd _ hq | exact bt_sDel _ hq | exact bt_sEp _ hq | exact set_ep hq | (simp only [setL, List.getElem?_cons_zero, List.getElem?_cons_succ, Value.cells, List.take_zero, List.take_succ_cons, List.take_nil, List.drop_zero, List.drop_succ_cons, List.drop_nil, List.length_cons, List.length_nil, List.cons_append, List.nil_append, List.append_nil, Nat.zero_add, Nat.add_zero, Nat.reduceAdd, Nat.reduceBEq, Nat.reduceEqDiff, Nat.ble, BEq.rfl, Bool.and_true, Bool.and_self, cond_true, beq_self_eq_true]; rfl)) ?_)
  clear hh w; intro w hh
  refine d_step (fun h => absurd h (by decide)) ?_
  refine d_done (by kernel_rfl) ?_
  try clear hM
  have hl2 := hl.add (t := 0) (hl.add (t := 2) (hl.nil) rfl) rfl; clear hl; have hl := hl2; clear hl2
  refine then_normal ?_
  refine c_draw [(bg, C (arrL 146 (fgE f ep)) 94)] [9, 10] mixed hh ?_
  clear hh w; intro w hh
  have hM : Mem [(bg, C (arrL 146 (fgE f ep)) 94)] w := (memK hh (by repeat (first | exact keeps_nil | apply keeps_cons (by repeat (first | exact find_head | apply find_tail | apply find_skip)) (by first  | rfl) | exact keeps_self | exact keeps_left | apply keeps_app | apply keeps_mv | apply keeps_skip)))
  refine d_take (i := 0) hl rfl (by kernel_rfl) (by kernel_rfl) (by kernel_rfl) (by kernel_rfl) (by kernel_rfl) rfl trivial (fun _ _ _ h => h) hM (fun w hC => r_move hl rfl) rfl ?_
  clear hl a; intro a hl
  refine d_take (i := 1) hl rfl (by kernel_rfl) (by kernel_rfl) (by kernel_rfl) (by kernel_rfl) (by kernel_rfl) rfl trivial (fun _ _ _ h => h) hM (fun w hC => r_move hl rfl) rfl ?_
  clear hl a; intro a hl
  refine d_take (i := 2) hl rfl (by kernel_rfl) (by kernel_rfl) (by kernel_rfl) (by kernel_rfl) (by kernel_rfl) rfl trivial (fun _ _ _ h => h) hM (fun w hC => r_nilCheck hl rfl) rfl ?_
  clear hl a; intro a hl
  refine d_take (i := 3) hl rfl (by kernel_rfl) (by kernel_rfl) (by kernel_rfl) (by kernel_rfl) (by kernel_rfl) rfl trivial (fun _ _ _ h => h) hM (fun w hC => r_field hl rfl fld94_2) rfl ?_
  clear hl a; intro a hl
  refine d_take (i := 4) hl rfl (by kernel_rfl) (by kernel_rfl) (by kernel_rfl) (by kernel_rfl) (by kernel_rfl) rfl trivial (fun _ _ _ h => h) hM (fun w hC => r_indexA hl rfl rfl arr43 (by omega) (by omega) (by first | (simp only [Int.reduceToNat]; rfl) | exact toNat_add1 _ | exact toNat_add2 _ _ | exact toNat_emod _ _ | exact Int.toNat_natCast _ | rfl)) rfl ?_
  clear hl a; intro a hl
  refine d_take (i := 5) hl rfl (by kernel_rfl) (by kernel_rfl) (by kernel_rfl) (by kernel_rfl) (by kernel_rfl) rfl trivial (fun _ _ _ h => h) hM (fun w hC => r_loadC hl rfl one42 hC (by repeat (first | exact find_head | apply find_tail | apply find_skip)) (by first | exact bt_ended _ | exact bt_woken _ | exact bt_add _ hq | exact bt_del _ hq | exact bt_ep _ hq | exact fg_ep hq | rfl)) rfl ?_
  clear hl a; intro a hl
  first | refine d_take (i := 6) hl rfl (by kernel_rfl) (by kernel_rfl) (by kernel_rfl) (by kernel_rfl) (by kernel_rfl) rfl trivial (fun _ _ _ h => h) hM (fun w hC => r_add hl rfl rfl (by simp only [Fits]; omega)) rfl ?_ | refine d_take (i := 6) hl rfl (by kernel_rfl) (by kernel_rfl) (by kernel_rfl) (by kernel_rfl) (by kernel_rfl) rfl trivial (fun _ _ _ h => h) hM (fun w hC => r_addM wm_u64 hl rfl rfl) rfl ?_
  clear hl a; intro a hl
  refine d_take (i := 7) hl rfl (by kernel_rfl) (by kernel_rfl) (by kernel_rfl) (by kernel_rfl) (by kernel_rfl) rfl trivial (fun _ _ _ h => h) hM (fun w hC => r_nilCheck hl rfl) rfl ?_
  clear hl a; intro a hl
  refine d_take (i := 8) hl rfl (by kernel_rfl) (by kernel_rfl) (by kernel_rfl) (by kernel_rfl) (by kernel_rfl) rfl trivial (fun _ _ _ h => h) hM (fun w hC => r_field hl rfl fld94_2) rfl ?_
  clear hl a; intro a hl
  refine d_takeL (i := 9) hl rfl (by kernel_rfl) (by kernel_rfl) (by kernel_rfl) (by kernel_rfl) (by kernel_rfl) rfl trivial (fun _ _ _ h => h) (fun w => r_indexA hl rfl rfl arr43 (by omega) (by omega) (by first | (simp only [Int.reduceToNat]; rfl) | exact toNat_add1 _ | exact toNat_add2 _ _ | exact toNat_emod _ _ | exact Int.toNat_natCast _ | rfl)) rfl ?_
  clear hl a; intro a hl
  refine d_one (i := 10) (by kernel_rfl) rfl ?_
  try clear hM
  refine id (w_store hl hh trivial one42 rfl rfl (by repeat (first | exact find_head | apply find_tail | apply find_skip)) (by first | (simp; done) | (simp; omega) | (rw [arrL_length]; omega)) (by first | rfl | assumption | (apply Row.one; assumption)) (by first | exact bt_sEnded _ | exact bt_sWoken _ | exact bt_sAdd _ hq | exact bt_sDel _ hq | exact bt_sEp _ hq | exact set_ep hq | (simp only [setL, List.getElem?_cons_zero, List.getElem?_cons_succ, Value.cells, List.take_zero, List.take_succ_cons, List.take_nil, List.drop_zero, List.drop_succ_cons, List.drop_nil, List.length_cons, List.length_nil, List.cons_append, List.nil_append, List.append_nil, Nat.zero_add, Nat.add_zero, Nat.reduceAdd, Nat.reduceBEq, Nat.reduceEqDiff, Nat.ble, BEq.rfl, Bool.and_true, Bool.and_self, cond_true, beq_self_eq_true]; rfl)) ?_)
  clear hh w; intro w hh
  refine d_step (fun h => absurd h (by decide)) ?_
  refine d_done (by kernel_rfl) ?_
  try clear hM
  have hl2 := hl.nil; clear hl; have hl := hl2; clear hl2
  refine f_end0 (F' := [(bg, C (arrL 146 (fgE f (updI ep q (ep q + 1)))) 94), (bb, C (arrL 50 (btV (endB b ep q))) 118)]) hl hh rfl (by repeat (first | exact keeps_nil | apply keeps_cons (by repeat (first | exact find_head | apply find_tail | apply find_skip)) (by first  | rfl) | exact keeps_self | exact keeps_left | apply keeps_app | apply keeps_mv | apply keeps_skip)) ?_
  exact ⟨rfl, rfl⟩

set_option maxHeartbeats 8000000 in
theorem hc_spec {tb : Tab} {ft : Nat → Value} {Et : Nat → List (Nat × Obj)} (hT : TabF tb ft Et) (bt : Nat) (hI : TI tb) (f : Nat → Value) (hf1 : f 1 = .pointer (some ⟨bt, 0, none⟩)) (ep : Nat → Int) (b : Bt) (bg bb r : Nat) (hr : r < 20) (bf : BitVec 16) (p : Option Addr) (cw : Nat) (wk : List Nat) (Ew : List (Nat × Obj)) (hRw : Row (.slice p wk.length cw) wk.length (fl tkc wk) 1 57 Ew) (hwk : ∀ t, t ∈ wk → t < 16) (hw16 : wk.length ≤ 1000) (Q : Int) (hep : EpI Q ep) (hQ : 0 ≤ Q ∧ Q ≤ 1000000000) : Sp Tryz.prog 45 #[.pointer (some ⟨bg, 0, none⟩), .pointer (some ⟨bb, 0, none⟩), .int .i64 (r : Int), .int .u16 (mi bf), .slice p wk.length cw] ((bg, C (arrL 146 (fgE f ep)) 94) :: (bb, C (arrL 50 (btV b)) 118) :: (Ew ++ tbL bt ft Et)) (fun v F' => v = .tuple #[] ∧ F' = (bg, C (arrL 146 (fgE f (hcP tb r bf (ep, b) wk).1)) 94) :: (bb, C (arrL 50 (btV (hcP tb r bf (ep, b) wk).2)) 118) :: tbL bt ft Et) := by
  refine f_enter (args := [.pointer (some ⟨bg, 0, none⟩), .pointer (some ⟨bb, 0, none⟩), .int .i64 (r : Int), .int .u16 (mi bf), .slice p wk.length cw]) Tryz.func45 rfl Tryz.ntmps45 rfl ?_
  intro w0 w a hpre hl hh
  have hfp : ∀ e, fgE f e 1 = .pointer (some ⟨bt, 0, none⟩) := fun e => by rw [fgE_out _ _ (by omega)]; exact hf1
  simp only [slotsFrom, Nat.reduceAdd] at hl
  refine c_seq ?_
  refine c_seq ?_
  refine c_region ?_
  refine wl (wl_val hl rfl trivial (r_move hl rfl) ?_)
  clear hl a; intro a hl
  refine wl (wl_val hl rfl trivial (r_lenS hl rfl slc114) ?_)
  clear hl a; intro a hl
  refine wl (wl_val hl rfl trivial (r_move hl rfl) ?_)
  clear hl a; intro a hl
  refine w_nil ?_
  have hl2 := hl.add (t := 0) (hl.add (t := 1) (hl.add (t := 2) (hl.add (t := 3) (hl.add (t := 17) (hl.add (t := 18) (hl.add (t := 19) (hl.nil) rfl) rfl) rfl) rfl) rfl) rfl) rfl; clear hl; have hl := hl2; clear hl2
  refine then_normal ?_
  refine wp_block ?_
  obtain ⟨KS0, hKS0, hk⟩ := (hl.add (t := 0) (hl.add (t := 1) (hl.add (t := 2) (hl.add (t := 3) (hl.add (t := 17) (hl.add (t := 18) (hl.nil) rfl) rfl) rfl) rfl) rfl) rfl).name
  obtain ⟨HS0, hHS0, hh2⟩ := hh.name (keeps_cons (b := bg) (o' := C (arrL 146 (fgE f (hcA (ep, b) (wk.take 0)).1)) 94) (by repeat (first | exact find_head | apply find_tail | apply find_skip)) (by first | rfl) (keeps_cons (b := bb) (o' := C (arrL 50 (btV (hcA (ep, b) (wk.take 0)).2)) 118) (by repeat (first | exact find_head | apply find_tail | apply find_skip)) (by first | rfl) (keeps_nil)))
  refine c_loop (α := Nat) (fun i => wk.length - i) (fun i a w => (i ≤ wk.length) ∧ Sl 106 ([(19, .int .i64 (i : Int))] ++ KS0) a ∧ Has _ w0 ([(bg, C (arrL 146 (fgE f (hcA (ep, b) (wk.take i)).1)) 94), (bb, C (arrL 50 (btV (hcA (ep, b) (wk.take i)).2)) 118)] ++ HS0) w) 0 ⟨(by omega), hl.addE (t := 19) (hk) rfl (by first | rfl), hh2⟩ ?_
  clear hk hh2 hl hh a w
  intro i a w hI
  obtain ⟨hi, hl, hh⟩ := hI
  subst hKS0; subst hHS0
  simp only [List.cons_append, List.nil_append, List.append_nil, List.append_assoc] at hl hh
  refine c_seq ?_
  refine c_region ?_
  refine wl (wl_val hl rfl trivial (r_lss hl rfl rfl) ?_)
  clear hl a; intro a hl
  refine w_nil ?_
  have hl2 := hl.add (t := 0) (hl.add (t := 1) (hl.add (t := 2) (hl.add (t := 3) (hl.add (t := 17) (hl.add (t := 18) (hl.add (t := 19) (hl.add (t := 20) (hl.nil) rfl) rfl) rfl) rfl) rfl) rfl) rfl) rfl; clear hl; have hl := hl2; clear hl2
  refine then_normal ?_
  refine c_seq ?_
  refine c_cond hl rfl ?_ ?_
  · intro hc0
    try simp only [decide_eq_true_eq, decide_eq_false_iff_not, Bool.not_eq_true', Bool.not_eq_false', Bool.not_eq_true, Bool.not_eq_false, Bool.and_eq_true, Bool.or_eq_true, Bool.and_eq_false_iff, Bool.or_eq_false_iff, Bool.not_not, ne_eq, Int.not_lt, Int.not_le, Decidable.not_not, beq_iff_eq, bne_iff_ne] at hc0
    obtain ⟨kw, jw, hpw, hjw, hcw, hEw⟩ := row_pos hRw (by omega)
    subst hpw
    subst hEw
    obtain ⟨tk, htk⟩ : ∃ t, wk[i]? = some t := ⟨_, List.getElem?_eq_getElem (by omega)⟩
    have ht16 := hwk tk (List.mem_of_getElem? htk)
    have hze := hcA_ep (wk.take i) (z := (ep, b)) hep
    have hti : (wk.take i).length ≤ wk.length := by rw [List.length_take]; omega
    obtain ⟨ze, zb, hzz⟩ : ∃ ze zb, (ze, zb) = hcA (ep, b) (wk.take i) := ⟨_, _, rfl⟩
    rw [← hzz] at hh hze
    have hzb := hze.bd tk ht16
    simp only at hh hzb
    refine wp_skip ?_
    refine then_normal ?_
    refine c_seq ?_
    refine wp_block ?_
    refine c_seq ?_
    refine c_region ?_
    refine wl (wl_val hl rfl trivial (r_indexS hl rfl rfl slc114 (by omega) (by omega) (by first | (simp only [Int.reduceToNat]; rfl) | exact toNat_add1 _ | exact toNat_add2 _ _ | exact toNat_emod _ _ | exact Int.toNat_natCast _ | rfl)) ?_)
    clear hl a; intro a hl
    refine wl (w_load hl hh rfl trivial one57 rfl (by repeat (first | exact find_head | apply find_tail | apply find_skip)) (by first | exact tk_at htk | exact fg_p1 (hfp _) | exact tk_at hty | exact bt_ended _ | exact bt_woken _ | exact bt_add _ ht16 | exact bt_del _ ht16 | exact bt_ep _ ht16 | exact fg_ep ht16 | exact bt_ended _ | exact bt_woken _ | exact bt_add _ hy16 | exact bt_del _ hy16 | exact bt_ep _ hy16 | exact fg_ep hy16 | rfl) ?_)
    clear hl a; intro a hl
    refine wl (wl_val hl rfl trivial (r_assign hl rfl) ?_)
    clear hl a; intro a hl
    refine w_nil ?_
    have hl2 := hl.add (t := 0) (hl.add (t := 1) (hl.add (t := 2) (hl.add (t := 3) (hl.add (t := 11) (hl.add (t := 17) (hl.add (t := 18) (hl.add (t := 19) (hl.nil) rfl) rfl) rfl) rfl) rfl) rfl) rfl) rfl; clear hl; have hl := hl2; clear hl2
    refine then_normal ?_
    refine c_seq ?_
    refine c_region ?_
    refine wl (wl_val hl rfl trivial (r_move hl rfl) ?_)
    clear hl a; intro a hl
    refine wl (wl_val hl rfl trivial (r_move hl rfl) ?_)
    clear hl a; intro a hl
    refine wl (wl_val hl rfl trivial (r_move hl rfl) ?_)
    clear hl a; intro a hl
    refine wl (w_call hl hh rfl trivial rfl cal71 rfl (endWait_spec f ze zb bg bb tk ht16 (by omega)) (by repeat (first | exact keeps_nil | apply keeps_cons (by repeat (first | exact find_head | apply find_tail | apply find_skip)) (by first  | rfl) | exact keeps_self | exact keeps_left | apply keeps_app | apply keeps_mv | apply keeps_skip)) trivial ?_)
    clear hl hh a w; intro vc Fc a w hR hl hh
    obtain ⟨rfl, rfl⟩ := hR
    try simp only [List.cons_append, List.nil_append, List.append_assoc, List.append_nil] at hh
    refine w_nil ?_
    have hl2 := hl.add (t := 0) (hl.add (t := 1) (hl.add (t := 2) (hl.add (t := 3) (hl.add (t := 11) (hl.add (t := 17) (hl.add (t := 18) (hl.add (t := 19) (hl.nil) rfl) rfl) rfl) rfl) rfl) rfl) rfl) rfl; clear hl; have hl := hl2; clear hl2
    refine then_normal ?_
    refine c_draw [(bb, C (arrL 50 (btV (endB zb ze tk))) 118)] [6, 7, 8, 9] mixed hh ?_
    clear hh w; intro w hh
    have hM : Mem [(bb, C (arrL 50 (btV (endB zb ze tk))) 118)] w := (memK hh (by repeat (first | exact keeps_nil | apply keeps_cons (by repeat (first | exact find_head | apply find_tail | apply find_skip)) (by first  | rfl) | exact keeps_self | exact keeps_left | apply keeps_app | apply keeps_mv | apply keeps_skip)))
    refine d_take (i := 0) hl rfl (by kernel_rfl) (by kernel_rfl) (by kernel_rfl) (by kernel_rfl) (by kernel_rfl) rfl trivial (fun _ _ _ h => h) hM (fun w hC => r_move hl rfl) rfl ?_
    clear hl a; intro a hl
    refine d_take (i := 1) hl rfl (by kernel_rfl) (by kernel_rfl) (by kernel_rfl) (by kernel_rfl) (by kernel_rfl) rfl trivial (fun _ _ _ h => h) hM (fun w hC => r_nilCheck hl rfl) rfl ?_
    clear hl a; intro a hl
    refine d_take (i := 2) hl rfl (by kernel_rfl) (by kernel_rfl) (by kernel_rfl) (by kernel_rfl) (by kernel_rfl) rfl trivial (fun _ _ _ h => h) hM (fun w hC => r_field hl rfl fld118_1) rfl ?_
    clear hl a; intro a hl
    refine d_take (i := 3) hl rfl (by kernel_rfl) (by kernel_rfl) (by kernel_rfl) (by kernel_rfl) (by kernel_rfl) rfl trivial (fun _ _ _ h => h) hM (fun w hC => r_loadC hl rfl one37 hC (by repeat (first | exact find_head | apply find_tail | apply find_skip)) (by first | exact tk_at htk | exact fg_p1 (hfp _) | exact tk_at hty | exact bt_ended _ | exact bt_woken _ | exact bt_add _ ht16 | exact bt_del _ ht16 | exact bt_ep _ ht16 | exact fg_ep ht16 | exact bt_ended _ | exact bt_woken _ | exact bt_add _ hy16 | exact bt_del _ hy16 | exact bt_ep _ hy16 | exact fg_ep hy16 | rfl)) rfl ?_
    clear hl a; intro a hl
    refine d_take (i := 4) hl rfl (by kernel_rfl) (by kernel_rfl) (by kernel_rfl) (by kernel_rfl) (by kernel_rfl) rfl trivial (fun _ _ _ h => h) hM (fun w hC => r_move hl rfl) rfl ?_
    clear hl a; intro a hl
    refine d_one (i := 5) (by kernel_rfl) rfl ?_
    try clear hM
    refine id (w_call hl hh rfl trivial rfl cal32 rfl (bit_spec tk ht16) (by repeat (first | exact keeps_nil | apply keeps_cons (by repeat (first | exact find_head | apply find_tail | apply find_skip)) (by first  | rfl) | exact keeps_self | exact keeps_left | apply keeps_app | apply keeps_mv | apply keeps_skip)) trivial ?_)
    clear hl hh a w; intro vc Fc a w hR hl hh
    obtain ⟨rfl, rfl⟩ := hR
    try simp only [List.cons_append, List.nil_append, List.append_assoc, List.append_nil] at hh
    have hM : Mem [(bb, C (arrL 50 (btV (endB zb ze tk))) 118)] w := (memK hh (by repeat (first | exact keeps_nil | apply keeps_cons (by repeat (first | exact find_head | apply find_tail | apply find_skip)) (by first  | rfl) | exact keeps_self | exact keeps_left | apply keeps_app | apply keeps_mv | apply keeps_skip)))
    refine d_step (fun _ => hM) ?_
    refine d_takeL (i := 6) hl rfl (by kernel_rfl) (by kernel_rfl) (by kernel_rfl) (by kernel_rfl) (by kernel_rfl) rfl trivial (fun _ _ _ h => h) (fun w => r_or hl rfl rfl) rfl ?_
    clear hl a; intro a hl
    rw [or_mi] at hl
    refine d_takeL (i := 7) hl rfl (by kernel_rfl) (by kernel_rfl) (by kernel_rfl) (by kernel_rfl) (by kernel_rfl) rfl trivial (fun _ _ _ h => h) (fun w => r_nilCheck hl rfl) rfl ?_
    clear hl a; intro a hl
    refine d_takeL (i := 8) hl rfl (by kernel_rfl) (by kernel_rfl) (by kernel_rfl) (by kernel_rfl) (by kernel_rfl) rfl trivial (fun _ _ _ h => h) (fun w => r_field hl rfl fld118_1) rfl ?_
    clear hl a; intro a hl
    refine d_one (i := 9) (by kernel_rfl) rfl ?_
    try clear hM
    refine id (w_store hl hh trivial one37 rfl rfl (by repeat (first | exact find_head | apply find_tail | apply find_skip)) (by first | (simp; done) | (simp; omega) | (rw [arrL_length]; omega)) (by first | rfl | assumption | (apply Row.one; assumption)) (by first | exact bt_sEnded _ | exact bt_sWoken _ | exact bt_sAdd _ ht16 | exact bt_sDel _ ht16 | exact bt_sEp _ ht16 | exact set_ep ht16 | exact bt_sEnded _ | exact bt_sWoken _ | exact bt_sAdd _ hy16 | exact bt_sDel _ hy16 | exact bt_sEp _ hy16 | exact set_ep hy16 | (simp only [setL, List.getElem?_cons_zero, List.getElem?_cons_succ, Value.cells, List.take_zero, List.take_succ_cons, List.take_nil, List.drop_zero, List.drop_succ_cons, List.drop_nil, List.length_cons, List.length_nil, List.cons_append, List.nil_append, List.append_nil, Nat.zero_add, Nat.add_zero, Nat.reduceAdd, Nat.reduceBEq, Nat.reduceEqDiff, Nat.ble, BEq.rfl, Bool.and_true, Bool.and_self, cond_true, beq_self_eq_true]; rfl)) ?_)
    clear hh w; intro w hh
    refine d_step (fun h => absurd h (by decide)) ?_
    refine d_done (by kernel_rfl) ?_
    try clear hM
    have hl2 := hl.add (t := 0) (hl.add (t := 1) (hl.add (t := 2) (hl.add (t := 3) (hl.add (t := 17) (hl.add (t := 18) (hl.add (t := 19) (hl.nil) rfl) rfl) rfl) rfl) rfl) rfl) rfl; clear hl; have hl := hl2; clear hl2
    refine blk_normal ?_
    refine then_normal ?_
    refine c_region ?_
    first | refine wl (wl_val hl rfl trivial (r_add hl rfl rfl (by simp only [Fits]; omega)) ?_) | refine wl (wl_val hl rfl trivial (r_addW hl rfl rfl) ?_)
    clear hl a; intro a hl
    refine wl (wl_val hl rfl trivial (r_move hl rfl) ?_)
    clear hl a; intro a hl
    refine w_nil ?_
    have hl2 := hl.add (t := 0) (hl.add (t := 1) (hl.add (t := 2) (hl.add (t := 3) (hl.add (t := 17) (hl.add (t := 18) (hl.add (t := 19) (hl.nil) rfl) rfl) rfl) rfl) rfl) rfl) rfl; clear hl; have hl := hl2; clear hl2
    refine then_normal ?_
    refine ⟨(i + 1), (by omega), (by omega), hl.addE (t := 19) (hl.addE (t := 0) (hl.addE (t := 1) (hl.addE (t := 2) (hl.addE (t := 3) (hl.addE (t := 17) (hl.addE (t := 18) (hl.nil) rfl (by first | rfl | (congr 1; omega))) rfl (by first | rfl | (congr 1; omega))) rfl (by first | rfl | (congr 1; omega))) rfl (by first | rfl | (congr 1; omega))) rfl (by first | rfl | (congr 1; omega))) rfl (by first | rfl | (congr 1; omega))) rfl (by first | rfl | (congr 1; omega)), hh.keep (by repeat (first | exact keeps_nil | apply keeps_cons (by repeat (first | exact find_head | apply find_tail | apply find_skip)) (by first  | exact hc_o1 htk hzz | exact hc_o2 htk hzz | rfl) | exact keeps_self | exact keeps_left | apply keeps_app | apply keeps_mv | apply keeps_skip))⟩
  · intro hc0
    try simp only [decide_eq_true_eq, decide_eq_false_iff_not, Bool.not_eq_true', Bool.not_eq_false', Bool.not_eq_true, Bool.not_eq_false, Bool.and_eq_true, Bool.or_eq_true, Bool.and_eq_false_iff, Bool.or_eq_false_iff, Bool.not_not, ne_eq, Int.not_lt, Int.not_le, Decidable.not_not, beq_iff_eq, bne_iff_ne] at hc0
    rw [show i = wk.length by omega, List.take_length] at hh
    obtain ⟨ze, zb, hzz⟩ : ∃ ze zb, (ze, zb) = hcA (ep, b) wk := ⟨_, _, rfl⟩
    rw [← hzz] at hh
    simp only at hh
    refine wp_exit ?_
    refine then_exit ?_
    refine then_exit ?_
    refine blk_exit ?_
    refine then_normal ?_
    refine c_seq ?_
    refine c_region ?_
    refine wl (wl_val hl rfl trivial (r_move hl rfl) ?_)
    clear hl a; intro a hl
    refine wl (wl_val hl rfl trivial (r_nilCheck hl rfl) ?_)
    clear hl a; intro a hl
    refine wl (wl_val hl rfl trivial (r_field hl rfl fld94_1) ?_)
    clear hl a; intro a hl
    refine wl (w_load hl hh rfl trivial one26 rfl (by repeat (first | exact find_head | apply find_tail | apply find_skip)) (by first | exact tk_at htk | exact fg_p1 (hfp _) | exact tk_at hty | exact bt_ended _ | exact bt_woken _ | exact bt_add _ ht16 | exact bt_del _ ht16 | exact bt_ep _ ht16 | exact fg_ep ht16 | exact bt_ended _ | exact bt_woken _ | exact bt_add _ hy16 | exact bt_del _ hy16 | exact bt_ep _ hy16 | exact fg_ep hy16 | rfl) ?_)
    clear hl a; intro a hl
    refine wl (wl_val hl rfl trivial (r_move hl rfl) ?_)
    clear hl a; intro a hl
    refine wl (w_call hl hh rfl trivial rfl cal41 rfl (holders_spec hT bt r hr) (by repeat (first | exact keeps_nil | apply keeps_cons (by repeat (first | exact find_head | apply find_tail | apply find_skip)) (by first  | rfl) | exact keeps_self | exact keeps_left | apply keeps_app | apply keeps_mv | apply keeps_skip)) (memK (E := tbL bt ft Et) hh (by repeat (first | exact keeps_nil | apply keeps_cons (by repeat (first | exact find_head | apply find_tail | apply find_skip)) (by first  | rfl) | exact keeps_self | exact keeps_left | apply keeps_app | apply keeps_mv | apply keeps_skip))) ?_)
    clear hl hh a w; intro vc Fc a w hR hl hh
    obtain ⟨rfl, rfl⟩ := hR
    try simp only [List.cons_append, List.nil_append, List.append_assoc, List.append_nil] at hh
    refine wl (wl_val hl rfl trivial (r_assign hl rfl) ?_)
    clear hl a; intro a hl
    refine w_nil ?_
    have hl2 := hl.add (t := 0) (hl.add (t := 1) (hl.add (t := 2) (hl.add (t := 3) (hl.add (t := 12) (hl.nil) rfl) rfl) rfl) rfl) rfl; clear hl; have hl := hl2; clear hl2
    refine then_normal ?_
    refine c_seq ?_
    refine c_region ?_
    refine wl (wl_val hl rfl trivial (r_move hl rfl) ?_)
    clear hl a; intro a hl
    refine wl (wl_val hl rfl trivial (r_move hl rfl) ?_)
    clear hl a; intro a hl
    refine wl (wl_val hl rfl trivial (r_andNot hl rfl rfl) ?_)
    clear hl a; intro a hl
    rw [andNot_mi] at hl
    refine wl (wl_val hl rfl trivial (r_move hl rfl) ?_)
    clear hl a; intro a hl
    refine wl (wl_val hl rfl trivial (r_move hl rfl) ?_)
    clear hl a; intro a hl
    refine wl (wl_val hl rfl trivial (r_andNot hl rfl rfl) ?_)
    clear hl a; intro a hl
    rw [andNot_mi] at hl
    refine wl (wl_val hl rfl trivial (r_assign hl rfl) ?_)
    clear hl a; intro a hl
    refine wl (wl_val hl rfl trivial (r_assign hl rfl) ?_)
    clear hl a; intro a hl
    refine w_nil ?_
    have hl2 := hl.add (t := 0) (hl.add (t := 1) (hl.add (t := 2) (hl.add (t := 13) (hl.add (t := 14) (hl.nil) rfl) rfl) rfl) rfl) rfl; clear hl; have hl := hl2; clear hl2
    refine then_normal ?_
    refine c_seq ?_
    refine c_seq ?_
    refine c_region ?_
    refine wl (wl_val hl rfl trivial (r_move hl rfl) ?_)
    clear hl a; intro a hl
    refine wl (wl_val hl rfl trivial (r_eql hl rfl rfl) ?_)
    clear hl a; intro a hl
    refine wl (wl_val hl rfl trivial (r_move hl rfl) ?_)
    clear hl a; intro a hl
    refine sl_split (t := 51) hl rfl ?_ ?_
    · intro hg1; clear hl; intro hl
      try simp only [decide_eq_true_eq, decide_eq_false_iff_not, Bool.not_eq_true', Bool.not_eq_false', Bool.not_eq_true, Bool.not_eq_false, Bool.and_eq_true, Bool.or_eq_true, Bool.and_eq_false_iff, Bool.or_eq_false_iff, Bool.not_not, ne_eq, Int.not_lt, Int.not_le, Decidable.not_not, beq_iff_eq, bne_iff_ne] at hg1
      refine wl (wl_val hl rfl ⟨_, _, rfl, rfl, rfl⟩ (r_move hl rfl) ?_)
      clear hl a; intro a hl
      refine wl (wl_val hl rfl ⟨_, _, rfl, rfl, rfl⟩ (r_eql hl rfl rfl) ?_)
      clear hl a; intro a hl
      refine wl (wl_val hl rfl trivial (r_pickT hl rfl rfl) ?_)
      clear hl a; intro a hl
      refine w_nil ?_
      have hl2 := hl.add (t := 0) (hl.add (t := 1) (hl.add (t := 2) (hl.add (t := 13) (hl.add (t := 14) (hl.add (t := 54) (hl.nil) rfl) rfl) rfl) rfl) rfl) rfl; clear hl; have hl := hl2; clear hl2
      refine then_normal ?_
      refine c_cond hl rfl ?_ ?_
      · intro hc1
        try simp only [decide_eq_true_eq, decide_eq_false_iff_not, Bool.not_eq_true', Bool.not_eq_false', Bool.not_eq_true, Bool.not_eq_false, Bool.and_eq_true, Bool.or_eq_true, Bool.and_eq_false_iff, Bool.or_eq_false_iff, Bool.not_not, ne_eq, Int.not_lt, Int.not_le, Decidable.not_not, beq_iff_eq, bne_iff_ne] at hc1
        refine wp_ret ?_
        refine then_ret ?_
        refine f_ret0 (F' := ((bg, C (arrL 146 (fgE f ze)) 94) :: (bb, C (arrL 50 (btV zb)) 118) :: tbL bt ft Et)) hl hh rfl (by repeat (first | exact keeps_nil | apply keeps_cons (by repeat (first | exact find_head | apply find_tail | apply find_skip)) (by first  | rfl) | exact keeps_self | exact keeps_left | apply keeps_app | apply keeps_mv | apply keeps_skip)) ?_
        have he : hcP tb r bf (ep, b) wk = (ze, zb) := by unfold hcP; rw [← hzz, if_pos ⟨(mi_zero _).1 (by assumption), (mi_zero _).1 (by assumption)⟩]
        rw [he]
        exact ⟨rfl, rfl⟩
      · intro hc1
        try simp only [decide_eq_true_eq, decide_eq_false_iff_not, Bool.not_eq_true', Bool.not_eq_false', Bool.not_eq_true, Bool.not_eq_false, Bool.and_eq_true, Bool.or_eq_true, Bool.and_eq_false_iff, Bool.or_eq_false_iff, Bool.not_not, ne_eq, Int.not_lt, Int.not_le, Decidable.not_not, beq_iff_eq, bne_iff_ne] at hc1
        obtain ⟨ca, hca⟩ : ∃ z, z = holdB tb r &&& ~~~ bf := ⟨_, rfl⟩
        obtain ⟨we, hwe⟩ : ∃ z, z = bf &&& ~~~ holdB tb r := ⟨_, rfl⟩
        rw [← hca, ← hwe] at hl
        have hcw0 : ¬ (ca = 0#16 ∧ we = 0#16) := fun h => by
          first | exact (by assumption : ¬ _) (by rw [← hca, h.1]; rfl) | exact (by assumption : ¬ _) (by rw [← hwe, h.2]; rfl)
        refine wp_skip ?_
        refine then_normal ?_
        refine c_seq ?_
        refine c_region ?_
        refine wl (wl_val hl rfl trivial (r_move hl rfl) ?_)
        clear hl a; intro a hl
        refine wl (wl_val hl rfl trivial (r_nilCheck hl rfl) ?_)
        clear hl a; intro a hl
        refine wl (wl_val hl rfl trivial (r_field hl rfl fld94_1) ?_)
        clear hl a; intro a hl
        refine wl (w_load hl hh rfl trivial one26 rfl (by repeat (first | exact find_head | apply find_tail | apply find_skip)) (by first | exact tk_at htk | exact fg_p1 (hfp _) | exact tk_at hty | exact bt_ended _ | exact bt_woken _ | exact bt_add _ ht16 | exact bt_del _ ht16 | exact bt_ep _ ht16 | exact fg_ep ht16 | exact bt_ended _ | exact bt_woken _ | exact bt_add _ hy16 | exact bt_del _ hy16 | exact bt_ep _ hy16 | exact fg_ep hy16 | rfl) ?_)
        clear hl a; intro a hl
        refine wl (wl_val hl rfl trivial (r_move hl rfl) ?_)
        clear hl a; intro a hl
        refine wl (w_call hl hh rfl trivial rfl cal72 rfl (waiters_spec hT bt hI r hr) (by repeat (first | exact keeps_nil | apply keeps_cons (by repeat (first | exact find_head | apply find_tail | apply find_skip)) (by first  | rfl) | exact keeps_self | exact keeps_left | apply keeps_app | apply keeps_mv | apply keeps_skip)) (memK (E := tbL bt ft Et) hh (by repeat (first | exact keeps_nil | apply keeps_cons (by repeat (first | exact find_head | apply find_tail | apply find_skip)) (by first  | rfl) | exact keeps_self | exact keeps_left | apply keeps_app | apply keeps_mv | apply keeps_skip))) ?_)
        clear hl hh a w; intro vc Fc a w hR hl hh
        try simp only [List.cons_append, List.nil_append, List.append_assoc, List.append_nil] at hh
        have hRq := hR
        clear hR
        generalize Fc = Eq_ at hh hRq
        obtain ⟨p8, c8, hp8⟩ := row_val hRq
        subst hp8
        obtain ⟨qs, hqs⟩ : ∃ z, z = (tb.q r).map (·.t) := ⟨_, rfl⟩
        have hqsl : qs.length = (tb.q r).length := by rw [hqs, List.length_map]
        rw [← hqs, ← hqsl] at hRq
        rw [← hqsl] at hl
        have hq16 := hI.len r hr
        refine wl (wl_val hl rfl trivial (r_lenS hl rfl slc114) ?_)
        clear hl a; intro a hl
        refine wl (wl_val hl rfl trivial (r_move hl rfl) ?_)
        clear hl a; intro a hl
        refine w_nil ?_
        have hl2 := hl.add (t := 0) (hl.add (t := 1) (hl.add (t := 13) (hl.add (t := 14) (hl.add (t := 60) (hl.add (t := 61) (hl.add (t := 62) (hl.nil) rfl) rfl) rfl) rfl) rfl) rfl) rfl; clear hl; have hl := hl2; clear hl2
        refine then_normal ?_
        refine wp_block ?_
        obtain ⟨KS1, hKS1, hk⟩ := (hl.add (t := 0) (hl.add (t := 1) (hl.add (t := 13) (hl.add (t := 14) (hl.add (t := 60) (hl.add (t := 61) (hl.nil) rfl) rfl) rfl) rfl) rfl) rfl).name
        obtain ⟨HS1, hHS1, hh2⟩ := hh.name (keeps_cons (b := bb) (o' := C (arrL 50 (btV (hcB ze ca we zb (qs.take 0)))) 118) (by repeat (first | exact find_head | apply find_tail | apply find_skip)) (by first | rfl) (keeps_nil))
        refine c_loop (α := Nat) (fun j => qs.length - j) (fun j a w => (j ≤ qs.length) ∧ Sl 106 ([(62, .int .i64 (j : Int))] ++ KS1) a ∧ Has _ w0 ([(bb, C (arrL 50 (btV (hcB ze ca we zb (qs.take j)))) 118)] ++ HS1) w) 0 ⟨(by omega), hl.addE (t := 62) (hk) rfl (by first | rfl), hh2⟩ ?_
        clear hk hh2 hl hh a w
        intro j a w hI
        obtain ⟨hj, hl, hh⟩ := hI
        subst hKS1; subst hHS1
        simp only [List.cons_append, List.nil_append, List.append_nil, List.append_assoc] at hl hh
        refine c_seq ?_
        refine c_region ?_
        refine wl (wl_val hl rfl trivial (r_lss hl rfl rfl) ?_)
        clear hl a; intro a hl
        refine w_nil ?_
        have hl2 := hl.add (t := 0) (hl.add (t := 1) (hl.add (t := 13) (hl.add (t := 14) (hl.add (t := 60) (hl.add (t := 61) (hl.add (t := 62) (hl.add (t := 63) (hl.nil) rfl) rfl) rfl) rfl) rfl) rfl) rfl) rfl; clear hl; have hl := hl2; clear hl2
        refine then_normal ?_
        refine c_seq ?_
        refine c_cond hl rfl ?_ ?_
        · intro hc2
          try simp only [decide_eq_true_eq, decide_eq_false_iff_not, Bool.not_eq_true', Bool.not_eq_false', Bool.not_eq_true, Bool.not_eq_false, Bool.and_eq_true, Bool.or_eq_true, Bool.and_eq_false_iff, Bool.or_eq_false_iff, Bool.not_not, ne_eq, Int.not_lt, Int.not_le, Decidable.not_not, beq_iff_eq, bne_iff_ne] at hc2
          obtain ⟨kq, jq, hpq, hjq, hcq, hEq⟩ := row_pos hRq (by omega)
          subst hpq
          subst hEq
          obtain ⟨ty, hty⟩ : ∃ t, qs[j]? = some t := ⟨_, List.getElem?_eq_getElem (by omega)⟩
          have hy16 : ty < 16 := by
            have hm := List.mem_of_getElem? hty
            rw [hqs] at hm
            obtain ⟨x, hx, rfl⟩ := List.mem_map.1 hm
            exact (hI.q r hr x hx).1
          obtain ⟨zc, hzc⟩ : ∃ z, z = hcB ze ca we zb (qs.take j) := ⟨_, rfl⟩
          rw [← hzc] at hh
          refine wp_skip ?_
          refine then_normal ?_
          refine c_seq ?_
          refine wp_block ?_
          refine c_seq ?_
          refine c_region ?_
          refine wl (wl_val hl rfl trivial (r_indexS hl rfl rfl slc114 (by omega) (by omega) (by first | (simp only [Int.reduceToNat]; rfl) | exact toNat_add1 _ | exact toNat_add2 _ _ | exact toNat_emod _ _ | exact Int.toNat_natCast _ | rfl)) ?_)
          clear hl a; intro a hl
          refine wl (w_load hl hh rfl trivial one57 rfl (by repeat (first | exact find_head | apply find_tail | apply find_skip)) (by first | exact tk_at htk | exact fg_p1 (hfp _) | exact tk_at hty | exact bt_ended _ | exact bt_woken _ | exact bt_add _ ht16 | exact bt_del _ ht16 | exact bt_ep _ ht16 | exact fg_ep ht16 | exact bt_ended _ | exact bt_woken _ | exact bt_add _ hy16 | exact bt_del _ hy16 | exact bt_ep _ hy16 | exact fg_ep hy16 | rfl) ?_)
          clear hl a; intro a hl
          refine wl (wl_val hl rfl trivial (r_assign hl rfl) ?_)
          clear hl a; intro a hl
          refine w_nil ?_
          have hl2 := hl.add (t := 0) (hl.add (t := 1) (hl.add (t := 13) (hl.add (t := 14) (hl.add (t := 16) (hl.add (t := 60) (hl.add (t := 61) (hl.add (t := 62) (hl.nil) rfl) rfl) rfl) rfl) rfl) rfl) rfl) rfl; clear hl; have hl := hl2; clear hl2
          refine then_normal ?_
          refine c_seq ?_
          refine c_draw [(bg, C (arrL 146 (fgE f ze)) 94)] [10, 11] mixed hh ?_
          clear hh w; intro w hh
          have hM : Mem [(bg, C (arrL 146 (fgE f ze)) 94)] w := (memK hh (by repeat (first | exact keeps_nil | apply keeps_cons (by repeat (first | exact find_head | apply find_tail | apply find_skip)) (by first  | rfl) | exact keeps_self | exact keeps_left | apply keeps_app | apply keeps_mv | apply keeps_skip)))
          refine d_take (i := 0) hl rfl (by kernel_rfl) (by kernel_rfl) (by kernel_rfl) (by kernel_rfl) (by kernel_rfl) rfl trivial (fun _ _ _ h => h) hM (fun w hC => r_move hl rfl) rfl ?_
          clear hl a; intro a hl
          refine d_take (i := 1) hl rfl (by kernel_rfl) (by kernel_rfl) (by kernel_rfl) (by kernel_rfl) (by kernel_rfl) rfl trivial (fun _ _ _ h => h) hM (fun w hC => r_move hl rfl) rfl ?_
          clear hl a; intro a hl
          refine d_take (i := 2) hl rfl (by kernel_rfl) (by kernel_rfl) (by kernel_rfl) (by kernel_rfl) (by kernel_rfl) rfl trivial (fun _ _ _ h => h) hM (fun w hC => r_move hl rfl) rfl ?_
          clear hl a; intro a hl
          refine d_take (i := 3) hl rfl (by kernel_rfl) (by kernel_rfl) (by kernel_rfl) (by kernel_rfl) (by kernel_rfl) rfl trivial (fun _ _ _ h => h) hM (fun w hC => r_move hl rfl) rfl ?_
          clear hl a; intro a hl
          refine d_take (i := 4) hl rfl (by kernel_rfl) (by kernel_rfl) (by kernel_rfl) (by kernel_rfl) (by kernel_rfl) rfl trivial (fun _ _ _ h => h) hM (fun w hC => r_nilCheck hl rfl) rfl ?_
          clear hl a; intro a hl
          refine d_take (i := 5) hl rfl (by kernel_rfl) (by kernel_rfl) (by kernel_rfl) (by kernel_rfl) (by kernel_rfl) rfl trivial (fun _ _ _ h => h) hM (fun w hC => r_field hl rfl fld94_2) rfl ?_
          clear hl a; intro a hl
          refine d_take (i := 6) hl rfl (by kernel_rfl) (by kernel_rfl) (by kernel_rfl) (by kernel_rfl) (by kernel_rfl) rfl trivial (fun _ _ _ h => h) hM (fun w hC => r_indexA hl rfl rfl arr43 (by omega) (by omega) (by first | (simp only [Int.reduceToNat]; rfl) | exact toNat_add1 _ | exact toNat_add2 _ _ | exact toNat_emod _ _ | exact Int.toNat_natCast _ | rfl)) rfl ?_
          clear hl a; intro a hl
          refine d_take (i := 7) hl rfl (by kernel_rfl) (by kernel_rfl) (by kernel_rfl) (by kernel_rfl) (by kernel_rfl) rfl trivial (fun _ _ _ h => h) hM (fun w hC => r_loadC hl rfl one42 hC (by repeat (first | exact find_head | apply find_tail | apply find_skip)) (by first | exact tk_at htk | exact fg_p1 (hfp _) | exact tk_at hty | exact bt_ended _ | exact bt_woken _ | exact bt_add _ ht16 | exact bt_del _ ht16 | exact bt_ep _ ht16 | exact fg_ep ht16 | exact bt_ended _ | exact bt_woken _ | exact bt_add _ hy16 | exact bt_del _ hy16 | exact bt_ep _ hy16 | exact fg_ep hy16 | rfl)) rfl ?_
          clear hl a; intro a hl
          refine d_take (i := 8) hl rfl (by kernel_rfl) (by kernel_rfl) (by kernel_rfl) (by kernel_rfl) (by kernel_rfl) rfl trivial (fun _ _ _ h => h) hM (fun w hC => r_nilCheck hl rfl) rfl ?_
          clear hl a; intro a hl
          refine d_take (i := 9) hl rfl (by kernel_rfl) (by kernel_rfl) (by kernel_rfl) (by kernel_rfl) (by kernel_rfl) rfl trivial (fun _ _ _ h => h) hM (fun w hC => r_field hl rfl fld118_4) rfl ?_
          clear hl a; intro a hl
          refine d_takeL (i := 10) hl rfl (by kernel_rfl) (by kernel_rfl) (by kernel_rfl) (by kernel_rfl) (by kernel_rfl) rfl trivial (fun _ _ _ h => h) (fun w => r_indexA hl rfl rfl arr43 (by omega) (by omega) (by first | (simp only [Int.reduceToNat]; rfl) | exact toNat_add1 _ | exact toNat_add2 _ _ | exact toNat_emod _ _ | exact Int.toNat_natCast _ | rfl)) rfl ?_
          clear hl a; intro a hl
          refine d_one (i := 11) (by kernel_rfl) rfl ?_
          try clear hM
          refine id (w_store hl hh trivial one42 rfl rfl (by repeat (first | exact find_head | apply find_tail | apply find_skip)) (by first | (simp; done) | (simp; omega) | (rw [arrL_length]; omega)) (by first | rfl | assumption | (apply Row.one; assumption)) (by first | exact bt_sEnded _ | exact bt_sWoken _ | exact bt_sAdd _ ht16 | exact bt_sDel _ ht16 | exact bt_sEp _ ht16 | exact set_ep ht16 | exact bt_sEnded _ | exact bt_sWoken _ | exact bt_sAdd _ hy16 | exact bt_sDel _ hy16 | exact bt_sEp _ hy16 | exact set_ep hy16 | (simp only [setL, List.getElem?_cons_zero, List.getElem?_cons_succ, Value.cells, List.take_zero, List.take_succ_cons, List.take_nil, List.drop_zero, List.drop_succ_cons, List.drop_nil, List.length_cons, List.length_nil, List.cons_append, List.nil_append, List.append_nil, Nat.zero_add, Nat.add_zero, Nat.reduceAdd, Nat.reduceBEq, Nat.reduceEqDiff, Nat.ble, BEq.rfl, Bool.and_true, Bool.and_self, cond_true, beq_self_eq_true]; rfl)) ?_)
          clear hh w; intro w hh
          refine d_step (fun h => absurd h (by decide)) ?_
          refine d_done (by kernel_rfl) ?_
          try clear hM
          have hl2 := hl.add (t := 0) (hl.add (t := 1) (hl.add (t := 13) (hl.add (t := 14) (hl.add (t := 16) (hl.add (t := 60) (hl.add (t := 61) (hl.add (t := 62) (hl.nil) rfl) rfl) rfl) rfl) rfl) rfl) rfl) rfl; clear hl; have hl := hl2; clear hl2
          refine then_normal ?_
          refine c_seq ?_
          refine c_draw [(bb, C (arrL 50 (btV { zc with ep := updI zc.ep ty (ze ty) })) 118)] [13, 14] mixed hh ?_
          clear hh w; intro w hh
          have hM : Mem [(bb, C (arrL 50 (btV { zc with ep := updI zc.ep ty (ze ty) })) 118)] w := (memK hh (by repeat (first | exact keeps_nil | apply keeps_cons (by repeat (first | exact find_head | apply find_tail | apply find_skip)) (by first  | rfl) | exact keeps_self | exact keeps_left | apply keeps_app | apply keeps_mv | apply keeps_skip)))
          refine d_take (i := 0) hl rfl (by kernel_rfl) (by kernel_rfl) (by kernel_rfl) (by kernel_rfl) (by kernel_rfl) rfl trivial (fun _ _ _ h => h) hM (fun w hC => r_move hl rfl) rfl ?_
          clear hl a; intro a hl
          refine d_take (i := 1) hl rfl (by kernel_rfl) (by kernel_rfl) (by kernel_rfl) (by kernel_rfl) (by kernel_rfl) rfl trivial (fun _ _ _ h => h) hM (fun w hC => r_move hl rfl) rfl ?_
          clear hl a; intro a hl
          refine d_take (i := 2) hl rfl (by kernel_rfl) (by kernel_rfl) (by kernel_rfl) (by kernel_rfl) (by kernel_rfl) rfl trivial (fun _ _ _ h => h) hM (fun w hC => r_nilCheck hl rfl) rfl ?_
          clear hl a; intro a hl
          refine d_take (i := 3) hl rfl (by kernel_rfl) (by kernel_rfl) (by kernel_rfl) (by kernel_rfl) (by kernel_rfl) rfl trivial (fun _ _ _ h => h) hM (fun w hC => r_field hl rfl fld118_2) rfl ?_
          clear hl a; intro a hl
          refine d_take (i := 4) hl rfl (by kernel_rfl) (by kernel_rfl) (by kernel_rfl) (by kernel_rfl) (by kernel_rfl) rfl trivial (fun _ _ _ h => h) hM (fun w hC => r_indexA hl rfl rfl arr50 (by omega) (by omega) (by first | (simp only [Int.reduceToNat]; rfl) | exact toNat_add1 _ | exact toNat_add2 _ _ | exact toNat_emod _ _ | exact Int.toNat_natCast _ | rfl)) rfl ?_
          clear hl a; intro a hl
          refine d_take (i := 5) hl rfl (by kernel_rfl) (by kernel_rfl) (by kernel_rfl) (by kernel_rfl) (by kernel_rfl) rfl trivial (fun _ _ _ h => h) hM (fun w hC => r_loadC hl rfl one37 hC (by repeat (first | exact find_head | apply find_tail | apply find_skip)) (by first | exact tk_at htk | exact fg_p1 (hfp _) | exact tk_at hty | exact bt_ended _ | exact bt_woken _ | exact bt_add _ ht16 | exact bt_del _ ht16 | exact bt_ep _ ht16 | exact fg_ep ht16 | exact bt_ended _ | exact bt_woken _ | exact bt_add _ hy16 | exact bt_del _ hy16 | exact bt_ep _ hy16 | exact fg_ep hy16 | rfl)) rfl ?_
          clear hl a; intro a hl
          refine d_take (i := 6) hl rfl (by kernel_rfl) (by kernel_rfl) (by kernel_rfl) (by kernel_rfl) (by kernel_rfl) rfl trivial (fun _ _ _ h => h) hM (fun w hC => r_move hl rfl) rfl ?_
          clear hl a; intro a hl
          refine d_take (i := 7) hl rfl (by kernel_rfl) (by kernel_rfl) (by kernel_rfl) (by kernel_rfl) (by kernel_rfl) rfl trivial (fun _ _ _ h => h) hM (fun w hC => r_move hl rfl) rfl ?_
          clear hl a; intro a hl
          refine d_take (i := 11) hl rfl (by kernel_rfl) (by kernel_rfl) (by kernel_rfl) (by kernel_rfl) (by kernel_rfl) rfl trivial (fun _ _ _ h => h) hM (fun w hC => r_nilCheck hl rfl) rfl ?_
          clear hl a; intro a hl
          refine d_take (i := 12) hl rfl (by kernel_rfl) (by kernel_rfl) (by kernel_rfl) (by kernel_rfl) (by kernel_rfl) rfl trivial (fun _ _ _ h => h) hM (fun w hC => r_field hl rfl fld118_2) rfl ?_
          clear hl a; intro a hl
          refine d_one (i := 8) (by kernel_rfl) rfl ?_
          try clear hM
          refine id (w_call hl hh rfl trivial rfl cal32 rfl (bit_spec ty hy16) (by repeat (first | exact keeps_nil | apply keeps_cons (by repeat (first | exact find_head | apply find_tail | apply find_skip)) (by first  | rfl) | exact keeps_self | exact keeps_left | apply keeps_app | apply keeps_mv | apply keeps_skip)) trivial ?_)
          clear hl hh a w; intro vc Fc a w hR hl hh
          obtain ⟨rfl, rfl⟩ := hR
          try simp only [List.cons_append, List.nil_append, List.append_assoc, List.append_nil] at hh
          have hM : Mem [(bb, C (arrL 50 (btV { zc with ep := updI zc.ep ty (ze ty) })) 118)] w := (memK hh (by repeat (first | exact keeps_nil | apply keeps_cons (by repeat (first | exact find_head | apply find_tail | apply find_skip)) (by first  | rfl) | exact keeps_self | exact keeps_left | apply keeps_app | apply keeps_mv | apply keeps_skip)))
          refine d_step (fun _ => hM) ?_
          refine d_take (i := 9) hl rfl (by kernel_rfl) (by kernel_rfl) (by kernel_rfl) (by kernel_rfl) (by kernel_rfl) rfl trivial (fun _ _ _ h => h) hM (fun w hC => r_andNot hl rfl rfl) rfl ?_
          clear hl a; intro a hl
          rw [andNot_mi] at hl
          refine d_take (i := 10) hl rfl (by kernel_rfl) (by kernel_rfl) (by kernel_rfl) (by kernel_rfl) (by kernel_rfl) rfl trivial (fun _ _ _ h => h) hM (fun w hC => r_or hl rfl rfl) rfl ?_
          clear hl a; intro a hl
          rw [or_mi] at hl
          refine d_takeL (i := 13) hl rfl (by kernel_rfl) (by kernel_rfl) (by kernel_rfl) (by kernel_rfl) (by kernel_rfl) rfl trivial (fun _ _ _ h => h) (fun w => r_indexA hl rfl rfl arr50 (by omega) (by omega) (by first | (simp only [Int.reduceToNat]; rfl) | exact toNat_add1 _ | exact toNat_add2 _ _ | exact toNat_emod _ _ | exact Int.toNat_natCast _ | rfl)) rfl ?_
          clear hl a; intro a hl
          refine d_one (i := 14) (by kernel_rfl) rfl ?_
          try clear hM
          refine id (w_store hl hh trivial one37 rfl rfl (by repeat (first | exact find_head | apply find_tail | apply find_skip)) (by first | (simp; done) | (simp; omega) | (rw [arrL_length]; omega)) (by first | rfl | assumption | (apply Row.one; assumption)) (by first | exact bt_sEnded _ | exact bt_sWoken _ | exact bt_sAdd _ ht16 | exact bt_sDel _ ht16 | exact bt_sEp _ ht16 | exact set_ep ht16 | exact bt_sEnded _ | exact bt_sWoken _ | exact bt_sAdd _ hy16 | exact bt_sDel _ hy16 | exact bt_sEp _ hy16 | exact set_ep hy16 | (simp only [setL, List.getElem?_cons_zero, List.getElem?_cons_succ, Value.cells, List.take_zero, List.take_succ_cons, List.take_nil, List.drop_zero, List.drop_succ_cons, List.drop_nil, List.length_cons, List.length_nil, List.cons_append, List.nil_append, List.append_nil, Nat.zero_add, Nat.add_zero, Nat.reduceAdd, Nat.reduceBEq, Nat.reduceEqDiff, Nat.ble, BEq.rfl, Bool.and_true, Bool.and_self, cond_true, beq_self_eq_true]; rfl)) ?_)
          clear hh w; intro w hh
          refine d_step (fun h => absurd h (by decide)) ?_
          refine d_done (by kernel_rfl) ?_
          try clear hM
          have hl2 := hl.add (t := 0) (hl.add (t := 1) (hl.add (t := 13) (hl.add (t := 14) (hl.add (t := 16) (hl.add (t := 60) (hl.add (t := 61) (hl.add (t := 62) (hl.nil) rfl) rfl) rfl) rfl) rfl) rfl) rfl) rfl; clear hl; have hl := hl2; clear hl2
          refine then_normal ?_
          refine c_draw [(bb, C (arrL 50 (btV { ({ zc with ep := updI zc.ep ty (ze ty) } : Bt) with add := updB zc.add ty (zc.add ty ||| (ca &&& ~~~ bitB ty)) })) 118)] [13, 14] mixed hh ?_
          clear hh w; intro w hh
          have hM : Mem [(bb, C (arrL 50 (btV { ({ zc with ep := updI zc.ep ty (ze ty) } : Bt) with add := updB zc.add ty (zc.add ty ||| (ca &&& ~~~ bitB ty)) })) 118)] w := (memK hh (by repeat (first | exact keeps_nil | apply keeps_cons (by repeat (first | exact find_head | apply find_tail | apply find_skip)) (by first  | rfl) | exact keeps_self | exact keeps_left | apply keeps_app | apply keeps_mv | apply keeps_skip)))
          refine d_take (i := 0) hl rfl (by kernel_rfl) (by kernel_rfl) (by kernel_rfl) (by kernel_rfl) (by kernel_rfl) rfl trivial (fun _ _ _ h => h) hM (fun w hC => r_move hl rfl) rfl ?_
          clear hl a; intro a hl
          refine d_take (i := 1) hl rfl (by kernel_rfl) (by kernel_rfl) (by kernel_rfl) (by kernel_rfl) (by kernel_rfl) rfl trivial (fun _ _ _ h => h) hM (fun w hC => r_move hl rfl) rfl ?_
          clear hl a; intro a hl
          refine d_take (i := 2) hl rfl (by kernel_rfl) (by kernel_rfl) (by kernel_rfl) (by kernel_rfl) (by kernel_rfl) rfl trivial (fun _ _ _ h => h) hM (fun w hC => r_nilCheck hl rfl) rfl ?_
          clear hl a; intro a hl
          refine d_take (i := 3) hl rfl (by kernel_rfl) (by kernel_rfl) (by kernel_rfl) (by kernel_rfl) (by kernel_rfl) rfl trivial (fun _ _ _ h => h) hM (fun w hC => r_field hl rfl fld118_3) rfl ?_
          clear hl a; intro a hl
          refine d_take (i := 4) hl rfl (by kernel_rfl) (by kernel_rfl) (by kernel_rfl) (by kernel_rfl) (by kernel_rfl) rfl trivial (fun _ _ _ h => h) hM (fun w hC => r_indexA hl rfl rfl arr50 (by omega) (by omega) (by first | (simp only [Int.reduceToNat]; rfl) | exact toNat_add1 _ | exact toNat_add2 _ _ | exact toNat_emod _ _ | exact Int.toNat_natCast _ | rfl)) rfl ?_
          clear hl a; intro a hl
          refine d_take (i := 5) hl rfl (by kernel_rfl) (by kernel_rfl) (by kernel_rfl) (by kernel_rfl) (by kernel_rfl) rfl trivial (fun _ _ _ h => h) hM (fun w hC => r_loadC hl rfl one37 hC (by repeat (first | exact find_head | apply find_tail | apply find_skip)) (by first | exact tk_at htk | exact fg_p1 (hfp _) | exact tk_at hty | exact bt_ended _ | exact bt_woken _ | exact bt_add _ ht16 | exact bt_del _ ht16 | exact bt_ep _ ht16 | exact fg_ep ht16 | exact bt_ended _ | exact bt_woken _ | exact bt_add _ hy16 | exact bt_del _ hy16 | exact bt_ep _ hy16 | exact fg_ep hy16 | rfl)) rfl ?_
          clear hl a; intro a hl
          refine d_take (i := 6) hl rfl (by kernel_rfl) (by kernel_rfl) (by kernel_rfl) (by kernel_rfl) (by kernel_rfl) rfl trivial (fun _ _ _ h => h) hM (fun w hC => r_move hl rfl) rfl ?_
          clear hl a; intro a hl
          refine d_take (i := 7) hl rfl (by kernel_rfl) (by kernel_rfl) (by kernel_rfl) (by kernel_rfl) (by kernel_rfl) rfl trivial (fun _ _ _ h => h) hM (fun w hC => r_move hl rfl) rfl ?_
          clear hl a; intro a hl
          refine d_take (i := 11) hl rfl (by kernel_rfl) (by kernel_rfl) (by kernel_rfl) (by kernel_rfl) (by kernel_rfl) rfl trivial (fun _ _ _ h => h) hM (fun w hC => r_nilCheck hl rfl) rfl ?_
          clear hl a; intro a hl
          refine d_take (i := 12) hl rfl (by kernel_rfl) (by kernel_rfl) (by kernel_rfl) (by kernel_rfl) (by kernel_rfl) rfl trivial (fun _ _ _ h => h) hM (fun w hC => r_field hl rfl fld118_3) rfl ?_
          clear hl a; intro a hl
          refine d_one (i := 8) (by kernel_rfl) rfl ?_
          try clear hM
          refine id (w_call hl hh rfl trivial rfl cal32 rfl (bit_spec ty hy16) (by repeat (first | exact keeps_nil | apply keeps_cons (by repeat (first | exact find_head | apply find_tail | apply find_skip)) (by first  | rfl) | exact keeps_self | exact keeps_left | apply keeps_app | apply keeps_mv | apply keeps_skip)) trivial ?_)
          clear hl hh a w; intro vc Fc a w hR hl hh
          obtain ⟨rfl, rfl⟩ := hR
          try simp only [List.cons_append, List.nil_append, List.append_assoc, List.append_nil] at hh
          have hM : Mem [(bb, C (arrL 50 (btV { ({ zc with ep := updI zc.ep ty (ze ty) } : Bt) with add := updB zc.add ty (zc.add ty ||| (ca &&& ~~~ bitB ty)) })) 118)] w := (memK hh (by repeat (first | exact keeps_nil | apply keeps_cons (by repeat (first | exact find_head | apply find_tail | apply find_skip)) (by first  | rfl) | exact keeps_self | exact keeps_left | apply keeps_app | apply keeps_mv | apply keeps_skip)))
          refine d_step (fun _ => hM) ?_
          refine d_take (i := 9) hl rfl (by kernel_rfl) (by kernel_rfl) (by kernel_rfl) (by kernel_rfl) (by kernel_rfl) rfl trivial (fun _ _ _ h => h) hM (fun w hC => r_andNot hl rfl rfl) rfl ?_
          clear hl a; intro a hl
          rw [andNot_mi] at hl
          refine d_take (i := 10) hl rfl (by kernel_rfl) (by kernel_rfl) (by kernel_rfl) (by kernel_rfl) (by kernel_rfl) rfl trivial (fun _ _ _ h => h) hM (fun w hC => r_or hl rfl rfl) rfl ?_
          clear hl a; intro a hl
          rw [or_mi] at hl
          refine d_takeL (i := 13) hl rfl (by kernel_rfl) (by kernel_rfl) (by kernel_rfl) (by kernel_rfl) (by kernel_rfl) rfl trivial (fun _ _ _ h => h) (fun w => r_indexA hl rfl rfl arr50 (by omega) (by omega) (by first | (simp only [Int.reduceToNat]; rfl) | exact toNat_add1 _ | exact toNat_add2 _ _ | exact toNat_emod _ _ | exact Int.toNat_natCast _ | rfl)) rfl ?_
          clear hl a; intro a hl
          refine d_one (i := 14) (by kernel_rfl) rfl ?_
          try clear hM
          refine id (w_store hl hh trivial one37 rfl rfl (by repeat (first | exact find_head | apply find_tail | apply find_skip)) (by first | (simp; done) | (simp; omega) | (rw [arrL_length]; omega)) (by first | rfl | assumption | (apply Row.one; assumption)) (by first | exact bt_sEnded _ | exact bt_sWoken _ | exact bt_sAdd _ ht16 | exact bt_sDel _ ht16 | exact bt_sEp _ ht16 | exact set_ep ht16 | exact bt_sEnded _ | exact bt_sWoken _ | exact bt_sAdd _ hy16 | exact bt_sDel _ hy16 | exact bt_sEp _ hy16 | exact set_ep hy16 | (simp only [setL, List.getElem?_cons_zero, List.getElem?_cons_succ, Value.cells, List.take_zero, List.take_succ_cons, List.take_nil, List.drop_zero, List.drop_succ_cons, List.drop_nil, List.length_cons, List.length_nil, List.cons_append, List.nil_append, List.append_nil, Nat.zero_add, Nat.add_zero, Nat.reduceAdd, Nat.reduceBEq, Nat.reduceEqDiff, Nat.ble, BEq.rfl, Bool.and_true, Bool.and_self, cond_true, beq_self_eq_true]; rfl)) ?_)
          clear hh w; intro w hh
          refine d_step (fun h => absurd h (by decide)) ?_
          refine d_done (by kernel_rfl) ?_
          try clear hM
          have hl2 := hl.add (t := 0) (hl.add (t := 1) (hl.add (t := 13) (hl.add (t := 14) (hl.add (t := 60) (hl.add (t := 61) (hl.add (t := 62) (hl.nil) rfl) rfl) rfl) rfl) rfl) rfl) rfl; clear hl; have hl := hl2; clear hl2
          refine blk_normal ?_
          refine then_normal ?_
          refine c_region ?_
          first | refine wl (wl_val hl rfl trivial (r_add hl rfl rfl (by simp only [Fits]; omega)) ?_) | refine wl (wl_val hl rfl trivial (r_addW hl rfl rfl) ?_)
          clear hl a; intro a hl
          refine wl (wl_val hl rfl trivial (r_move hl rfl) ?_)
          clear hl a; intro a hl
          refine w_nil ?_
          have hl2 := hl.add (t := 0) (hl.add (t := 1) (hl.add (t := 13) (hl.add (t := 14) (hl.add (t := 60) (hl.add (t := 61) (hl.add (t := 62) (hl.nil) rfl) rfl) rfl) rfl) rfl) rfl) rfl; clear hl; have hl := hl2; clear hl2
          refine then_normal ?_
          refine ⟨(j + 1), (by omega), (by omega), hl.addE (t := 62) (hl.addE (t := 0) (hl.addE (t := 1) (hl.addE (t := 13) (hl.addE (t := 14) (hl.addE (t := 60) (hl.addE (t := 61) (hl.nil) rfl (by first | rfl | (congr 1; omega))) rfl (by first | rfl | (congr 1; omega))) rfl (by first | rfl | (congr 1; omega))) rfl (by first | rfl | (congr 1; omega))) rfl (by first | rfl | (congr 1; omega))) rfl (by first | rfl | (congr 1; omega))) rfl (by first | rfl | (congr 1; omega)), hh.keep (by repeat (first | exact keeps_nil | apply keeps_cons (by repeat (first | exact find_head | apply find_tail | apply find_skip)) (by first  | exact hc_o3 hty hzc | rfl) | exact keeps_self | exact keeps_left | apply keeps_app | apply keeps_mv | apply keeps_skip))⟩
        · intro hc2
          try simp only [decide_eq_true_eq, decide_eq_false_iff_not, Bool.not_eq_true', Bool.not_eq_false', Bool.not_eq_true, Bool.not_eq_false, Bool.and_eq_true, Bool.or_eq_true, Bool.and_eq_false_iff, Bool.or_eq_false_iff, Bool.not_not, ne_eq, Int.not_lt, Int.not_le, Decidable.not_not, beq_iff_eq, bne_iff_ne] at hc2
          rw [show j = qs.length by omega, List.take_length] at hh
          refine wp_exit ?_
          refine then_exit ?_
          refine then_exit ?_
          refine blk_exit ?_
          refine f_end0 (F' := ((bg, C (arrL 146 (fgE f ze)) 94) :: (bb, C (arrL 50 (btV (hcB ze ca we zb qs))) 118) :: tbL bt ft Et)) hl hh rfl (by repeat (first | exact keeps_nil | apply keeps_cons (by repeat (first | exact find_head | apply find_tail | apply find_skip)) (by first  | rfl) | exact keeps_self | exact keeps_left | apply keeps_app | apply keeps_mv | apply keeps_skip)) ?_
          have he : hcP tb r bf (ep, b) wk = (ze, hcB ze ca we zb qs) := by unfold hcP; rw [← hzz, ← hca, ← hwe, ← hqs, if_neg hcw0]
          rw [he]
          exact ⟨rfl, rfl⟩
    · intro hg1; clear hl; intro hl
      try simp only [decide_eq_true_eq, decide_eq_false_iff_not, Bool.not_eq_true', Bool.not_eq_false', Bool.not_eq_true, Bool.not_eq_false, Bool.and_eq_true, Bool.or_eq_true, Bool.and_eq_false_iff, Bool.or_eq_false_iff, Bool.not_not, ne_eq, Int.not_lt, Int.not_le, Decidable.not_not, beq_iff_eq, bne_iff_ne] at hg1
      refine wl (wl_skip hl rfl ⟨_, _, rfl, rfl, rfl⟩ ?_)
      clear hl a; intro a hl
      refine wl (wl_skip hl rfl ⟨_, _, rfl, rfl, rfl⟩ ?_)
      clear hl a; intro a hl
      refine wl (wl_val hl rfl trivial (r_pickF hl rfl rfl) ?_)
      clear hl a; intro a hl
      refine w_nil ?_
      have hl2 := hl.add (t := 0) (hl.add (t := 1) (hl.add (t := 2) (hl.add (t := 13) (hl.add (t := 14) (hl.add (t := 54) (hl.nil) rfl) rfl) rfl) rfl) rfl) rfl; clear hl; have hl := hl2; clear hl2
      refine then_normal ?_
      refine c_condF hl rfl ?_
      obtain ⟨ca, hca⟩ : ∃ z, z = holdB tb r &&& ~~~ bf := ⟨_, rfl⟩
      obtain ⟨we, hwe⟩ : ∃ z, z = bf &&& ~~~ holdB tb r := ⟨_, rfl⟩
      rw [← hca, ← hwe] at hl
      have hcw0 : ¬ (ca = 0#16 ∧ we = 0#16) := fun h => by
        first | exact (by assumption : ¬ _) (by rw [← hca, h.1]; rfl) | exact (by assumption : ¬ _) (by rw [← hwe, h.2]; rfl)
      refine wp_skip ?_
      refine then_normal ?_
      refine c_seq ?_
      refine c_region ?_
      refine wl (wl_val hl rfl trivial (r_move hl rfl) ?_)
      clear hl a; intro a hl
      refine wl (wl_val hl rfl trivial (r_nilCheck hl rfl) ?_)
      clear hl a; intro a hl
      refine wl (wl_val hl rfl trivial (r_field hl rfl fld94_1) ?_)
      clear hl a; intro a hl
      refine wl (w_load hl hh rfl trivial one26 rfl (by repeat (first | exact find_head | apply find_tail | apply find_skip)) (by first | exact tk_at htk | exact fg_p1 (hfp _) | exact tk_at hty | exact bt_ended _ | exact bt_woken _ | exact bt_add _ ht16 | exact bt_del _ ht16 | exact bt_ep _ ht16 | exact fg_ep ht16 | exact bt_ended _ | exact bt_woken _ | exact bt_add _ hy16 | exact bt_del _ hy16 | exact bt_ep _ hy16 | exact fg_ep hy16 | rfl) ?_)
      clear hl a; intro a hl
      refine wl (wl_val hl rfl trivial (r_move hl rfl) ?_)
      clear hl a; intro a hl
      refine wl (w_call hl hh rfl trivial rfl cal72 rfl (waiters_spec hT bt hI r hr) (by repeat (first | exact keeps_nil | apply keeps_cons (by repeat (first | exact find_head | apply find_tail | apply find_skip)) (by first  | rfl) | exact keeps_self | exact keeps_left | apply keeps_app | apply keeps_mv | apply keeps_skip)) (memK (E := tbL bt ft Et) hh (by repeat (first | exact keeps_nil | apply keeps_cons (by repeat (first | exact find_head | apply find_tail | apply find_skip)) (by first  | rfl) | exact keeps_self | exact keeps_left | apply keeps_app | apply keeps_mv | apply keeps_skip))) ?_)
      clear hl hh a w; intro vc Fc a w hR hl hh
      try simp only [List.cons_append, List.nil_append, List.append_assoc, List.append_nil] at hh
      have hRq := hR
      clear hR
      generalize Fc = Eq_ at hh hRq
      obtain ⟨p8, c8, hp8⟩ := row_val hRq
      subst hp8
      obtain ⟨qs, hqs⟩ : ∃ z, z = (tb.q r).map (·.t) := ⟨_, rfl⟩
      have hqsl : qs.length = (tb.q r).length := by rw [hqs, List.length_map]
      rw [← hqs, ← hqsl] at hRq
      rw [← hqsl] at hl
      have hq16 := hI.len r hr
      refine wl (wl_val hl rfl trivial (r_lenS hl rfl slc114) ?_)
      clear hl a; intro a hl
      refine wl (wl_val hl rfl trivial (r_move hl rfl) ?_)
      clear hl a; intro a hl
      refine w_nil ?_
      have hl2 := hl.add (t := 0) (hl.add (t := 1) (hl.add (t := 13) (hl.add (t := 14) (hl.add (t := 60) (hl.add (t := 61) (hl.add (t := 62) (hl.nil) rfl) rfl) rfl) rfl) rfl) rfl) rfl; clear hl; have hl := hl2; clear hl2
      refine then_normal ?_
      refine wp_block ?_
      obtain ⟨KS1, hKS1, hk⟩ := (hl.add (t := 0) (hl.add (t := 1) (hl.add (t := 13) (hl.add (t := 14) (hl.add (t := 60) (hl.add (t := 61) (hl.nil) rfl) rfl) rfl) rfl) rfl) rfl).name
      obtain ⟨HS1, hHS1, hh2⟩ := hh.name (keeps_cons (b := bb) (o' := C (arrL 50 (btV (hcB ze ca we zb (qs.take 0)))) 118) (by repeat (first | exact find_head | apply find_tail | apply find_skip)) (by first | rfl) (keeps_nil))
      refine c_loop (α := Nat) (fun j => qs.length - j) (fun j a w => (j ≤ qs.length) ∧ Sl 106 ([(62, .int .i64 (j : Int))] ++ KS1) a ∧ Has _ w0 ([(bb, C (arrL 50 (btV (hcB ze ca we zb (qs.take j)))) 118)] ++ HS1) w) 0 ⟨(by omega), hl.addE (t := 62) (hk) rfl (by first | rfl), hh2⟩ ?_
      clear hk hh2 hl hh a w
      intro j a w hI
      obtain ⟨hj, hl, hh⟩ := hI
      subst hKS1; subst hHS1
      simp only [List.cons_append, List.nil_append, List.append_nil, List.append_assoc] at hl hh
      refine c_seq ?_
      refine c_region ?_
      refine wl (wl_val hl rfl trivial (r_lss hl rfl rfl) ?_)
      clear hl a; intro a hl
      refine w_nil ?_
      have hl2 := hl.add (t := 0) (hl.add (t := 1) (hl.add (t := 13) (hl.add (t := 14) (hl.add (t := 60) (hl.add (t := 61) (hl.add (t := 62) (hl.add (t := 63) (hl.nil) rfl) rfl) rfl) rfl) rfl) rfl) rfl) rfl; clear hl; have hl := hl2; clear hl2
      refine then_normal ?_
      refine c_seq ?_
      refine c_cond hl rfl ?_ ?_
      · intro hc2
        try simp only [decide_eq_true_eq, decide_eq_false_iff_not, Bool.not_eq_true', Bool.not_eq_false', Bool.not_eq_true, Bool.not_eq_false, Bool.and_eq_true, Bool.or_eq_true, Bool.and_eq_false_iff, Bool.or_eq_false_iff, Bool.not_not, ne_eq, Int.not_lt, Int.not_le, Decidable.not_not, beq_iff_eq, bne_iff_ne] at hc2
        obtain ⟨kq, jq, hpq, hjq, hcq, hEq⟩ := row_pos hRq (by omega)
        subst hpq
        subst hEq
        obtain ⟨ty, hty⟩ : ∃ t, qs[j]? = some t := ⟨_, List.getElem?_eq_getElem (by omega)⟩
        have hy16 : ty < 16 := by
          have hm := List.mem_of_getElem? hty
          rw [hqs] at hm
          obtain ⟨x, hx, rfl⟩ := List.mem_map.1 hm
          exact (hI.q r hr x hx).1
        obtain ⟨zc, hzc⟩ : ∃ z, z = hcB ze ca we zb (qs.take j) := ⟨_, rfl⟩
        rw [← hzc] at hh
        refine wp_skip ?_
        refine then_normal ?_
        refine c_seq ?_
        refine wp_block ?_
        refine c_seq ?_
        refine c_region ?_
        refine wl (wl_val hl rfl trivial (r_indexS hl rfl rfl slc114 (by omega) (by omega) (by first | (simp only [Int.reduceToNat]; rfl) | exact toNat_add1 _ | exact toNat_add2 _ _ | exact toNat_emod _ _ | exact Int.toNat_natCast _ | rfl)) ?_)
        clear hl a; intro a hl
        refine wl (w_load hl hh rfl trivial one57 rfl (by repeat (first | exact find_head | apply find_tail | apply find_skip)) (by first | exact tk_at htk | exact fg_p1 (hfp _) | exact tk_at hty | exact bt_ended _ | exact bt_woken _ | exact bt_add _ ht16 | exact bt_del _ ht16 | exact bt_ep _ ht16 | exact fg_ep ht16 | exact bt_ended _ | exact bt_woken _ | exact bt_add _ hy16 | exact bt_del _ hy16 | exact bt_ep _ hy16 | exact fg_ep hy16 | rfl) ?_)
        clear hl a; intro a hl
        refine wl (wl_val hl rfl trivial (r_assign hl rfl) ?_)
        clear hl a; intro a hl
        refine w_nil ?_
        have hl2 := hl.add (t := 0) (hl.add (t := 1) (hl.add (t := 13) (hl.add (t := 14) (hl.add (t := 16) (hl.add (t := 60) (hl.add (t := 61) (hl.add (t := 62) (hl.nil) rfl) rfl) rfl) rfl) rfl) rfl) rfl) rfl; clear hl; have hl := hl2; clear hl2
        refine then_normal ?_
        refine c_seq ?_
        refine c_draw [(bg, C (arrL 146 (fgE f ze)) 94)] [10, 11] mixed hh ?_
        clear hh w; intro w hh
        have hM : Mem [(bg, C (arrL 146 (fgE f ze)) 94)] w := (memK hh (by repeat (first | exact keeps_nil | apply keeps_cons (by repeat (first | exact find_head | apply find_tail | apply find_skip)) (by first  | rfl) | exact keeps_self | exact keeps_left | apply keeps_app | apply keeps_mv | apply keeps_skip)))
        refine d_take (i := 0) hl rfl (by kernel_rfl) (by kernel_rfl) (by kernel_rfl) (by kernel_rfl) (by kernel_rfl) rfl trivial (fun _ _ _ h => h) hM (fun w hC => r_move hl rfl) rfl ?_
        clear hl a; intro a hl
        refine d_take (i := 1) hl rfl (by kernel_rfl) (by kernel_rfl) (by kernel_rfl) (by kernel_rfl) (by kernel_rfl) rfl trivial (fun _ _ _ h => h) hM (fun w hC => r_move hl rfl) rfl ?_
        clear hl a; intro a hl
        refine d_take (i := 2) hl rfl (by kernel_rfl) (by kernel_rfl) (by kernel_rfl) (by kernel_rfl) (by kernel_rfl) rfl trivial (fun _ _ _ h => h) hM (fun w hC => r_move hl rfl) rfl ?_
        clear hl a; intro a hl
        refine d_take (i := 3) hl rfl (by kernel_rfl) (by kernel_rfl) (by kernel_rfl) (by kernel_rfl) (by kernel_rfl) rfl trivial (fun _ _ _ h => h) hM (fun w hC => r_move hl rfl) rfl ?_
        clear hl a; intro a hl
        refine d_take (i := 4) hl rfl (by kernel_rfl) (by kernel_rfl) (by kernel_rfl) (by kernel_rfl) (by kernel_rfl) rfl trivial (fun _ _ _ h => h) hM (fun w hC => r_nilCheck hl rfl) rfl ?_
        clear hl a; intro a hl
        refine d_take (i := 5) hl rfl (by kernel_rfl) (by kernel_rfl) (by kernel_rfl) (by kernel_rfl) (by kernel_rfl) rfl trivial (fun _ _ _ h => h) hM (fun w hC => r_field hl rfl fld94_2) rfl ?_
        clear hl a; intro a hl
        refine d_take (i := 6) hl rfl (by kernel_rfl) (by kernel_rfl) (by kernel_rfl) (by kernel_rfl) (by kernel_rfl) rfl trivial (fun _ _ _ h => h) hM (fun w hC => r_indexA hl rfl rfl arr43 (by omega) (by omega) (by first | (simp only [Int.reduceToNat]; rfl) | exact toNat_add1 _ | exact toNat_add2 _ _ | exact toNat_emod _ _ | exact Int.toNat_natCast _ | rfl)) rfl ?_
        clear hl a; intro a hl
        refine d_take (i := 7) hl rfl (by kernel_rfl) (by kernel_rfl) (by kernel_rfl) (by kernel_rfl) (by kernel_rfl) rfl trivial (fun _ _ _ h => h) hM (fun w hC => r_loadC hl rfl one42 hC (by repeat (first | exact find_head | apply find_tail | apply find_skip)) (by first | exact tk_at htk | exact fg_p1 (hfp _) | exact tk_at hty | exact bt_ended _ | exact bt_woken _ | exact bt_add _ ht16 | exact bt_del _ ht16 | exact bt_ep _ ht16 | exact fg_ep ht16 | exact bt_ended _ | exact bt_woken _ | exact bt_add _ hy16 | exact bt_del _ hy16 | exact bt_ep _ hy16 | exact fg_ep hy16 | rfl)) rfl ?_
        clear hl a; intro a hl
        refine d_take (i := 8) hl rfl (by kernel_rfl) (by kernel_rfl) (by kernel_rfl) (by kernel_rfl) (by kernel_rfl) rfl trivial (fun _ _ _ h => h) hM (fun w hC => r_nilCheck hl rfl) rfl ?_
        clear hl a; intro a hl
        refine d_take (i := 9) hl rfl (by kernel_rfl) (by kernel_rfl) (by kernel_rfl) (by kernel_rfl) (by kernel_rfl) rfl trivial (fun _ _ _ h => h) hM (fun w hC => r_field hl rfl fld118_4) rfl ?_
        clear hl a; intro a hl
        refine d_takeL (i := 10) hl rfl (by kernel_rfl) (by kernel_rfl) (by kernel_rfl) (by kernel_rfl) (by kernel_rfl) rfl trivial (fun _ _ _ h => h) (fun w => r_indexA hl rfl rfl arr43 (by omega) (by omega) (by first | (simp only [Int.reduceToNat]; rfl) | exact toNat_add1 _ | exact toNat_add2 _ _ | exact toNat_emod _ _ | exact Int.toNat_natCast _ | rfl)) rfl ?_
        clear hl a; intro a hl
        refine d_one (i := 11) (by kernel_rfl) rfl ?_
        try clear hM
        refine id (w_store hl hh trivial one42 rfl rfl (by repeat (first | exact find_head | apply find_tail | apply find_skip)) (by first | (simp; done) | (simp; omega) | (rw [arrL_length]; omega)) (by first | rfl | assumption | (apply Row.one; assumption)) (by first | exact bt_sEnded _ | exact bt_sWoken _ | exact bt_sAdd _ ht16 | exact bt_sDel _ ht16 | exact bt_sEp _ ht16 | exact set_ep ht16 | exact bt_sEnded _ | exact bt_sWoken _ | exact bt_sAdd _ hy16 | exact bt_sDel _ hy16 | exact bt_sEp _ hy16 | exact set_ep hy16 | (simp only [setL, List.getElem?_cons_zero, List.getElem?_cons_succ, Value.cells, List.take_zero, List.take_succ_cons, List.take_nil, List.drop_zero, List.drop_succ_cons, List.drop_nil, List.length_cons, List.length_nil, List.cons_append, List.nil_append, List.append_nil, Nat.zero_add, Nat.add_zero, Nat.reduceAdd, Nat.reduceBEq, Nat.reduceEqDiff, Nat.ble, BEq.rfl, Bool.and_true, Bool.and_self, cond_true, beq_self_eq_true]; rfl)) ?_)
        clear hh w; intro w hh
        refine d_step (fun h => absurd h (by decide)) ?_
        refine d_done (by kernel_rfl) ?_
        try clear hM
        have hl2 := hl.add (t := 0) (hl.add (t := 1) (hl.add (t := 13) (hl.add (t := 14) (hl.add (t := 16) (hl.add (t := 60) (hl.add (t := 61) (hl.add (t := 62) (hl.nil) rfl) rfl) rfl) rfl) rfl) rfl) rfl) rfl; clear hl; have hl := hl2; clear hl2
        refine then_normal ?_
        refine c_seq ?_
        refine c_draw [(bb, C (arrL 50 (btV { zc with ep := updI zc.ep ty (ze ty) })) 118)] [13, 14] mixed hh ?_
        clear hh w; intro w hh
        have hM : Mem [(bb, C (arrL 50 (btV { zc with ep := updI zc.ep ty (ze ty) })) 118)] w := (memK hh (by repeat (first | exact keeps_nil | apply keeps_cons (by repeat (first | exact find_head | apply find_tail | apply find_skip)) (by first  | rfl) | exact keeps_self | exact keeps_left | apply keeps_app | apply keeps_mv | apply keeps_skip)))
        refine d_take (i := 0) hl rfl (by kernel_rfl) (by kernel_rfl) (by kernel_rfl) (by kernel_rfl) (by kernel_rfl) rfl trivial (fun _ _ _ h => h) hM (fun w hC => r_move hl rfl) rfl ?_
        clear hl a; intro a hl
        refine d_take (i := 1) hl rfl (by kernel_rfl) (by kernel_rfl) (by kernel_rfl) (by kernel_rfl) (by kernel_rfl) rfl trivial (fun _ _ _ h => h) hM (fun w hC => r_move hl rfl) rfl ?_
        clear hl a; intro a hl
        refine d_take (i := 2) hl rfl (by kernel_rfl) (by kernel_rfl) (by kernel_rfl) (by kernel_rfl) (by kernel_rfl) rfl trivial (fun _ _ _ h => h) hM (fun w hC => r_nilCheck hl rfl) rfl ?_
        clear hl a; intro a hl
        refine d_take (i := 3) hl rfl (by kernel_rfl) (by kernel_rfl) (by kernel_rfl) (by kernel_rfl) (by kernel_rfl) rfl trivial (fun _ _ _ h => h) hM (fun w hC => r_field hl rfl fld118_2) rfl ?_
        clear hl a; intro a hl
        refine d_take (i := 4) hl rfl (by kernel_rfl) (by kernel_rfl) (by kernel_rfl) (by kernel_rfl) (by kernel_rfl) rfl trivial (fun _ _ _ h => h) hM (fun w hC => r_indexA hl rfl rfl arr50 (by omega) (by omega) (by first | (simp only [Int.reduceToNat]; rfl) | exact toNat_add1 _ | exact toNat_add2 _ _ | exact toNat_emod _ _ | exact Int.toNat_natCast _ | rfl)) rfl ?_
        clear hl a; intro a hl
        refine d_take (i := 5) hl rfl (by kernel_rfl) (by kernel_rfl) (by kernel_rfl) (by kernel_rfl) (by kernel_rfl) rfl trivial (fun _ _ _ h => h) hM (fun w hC => r_loadC hl rfl one37 hC (by repeat (first | exact find_head | apply find_tail | apply find_skip)) (by first | exact tk_at htk | exact fg_p1 (hfp _) | exact tk_at hty | exact bt_ended _ | exact bt_woken _ | exact bt_add _ ht16 | exact bt_del _ ht16 | exact bt_ep _ ht16 | exact fg_ep ht16 | exact bt_ended _ | exact bt_woken _ | exact bt_add _ hy16 | exact bt_del _ hy16 | exact bt_ep _ hy16 | exact fg_ep hy16 | rfl)) rfl ?_
        clear hl a; intro a hl
        refine d_take (i := 6) hl rfl (by kernel_rfl) (by kernel_rfl) (by kernel_rfl) (by kernel_rfl) (by kernel_rfl) rfl trivial (fun _ _ _ h => h) hM (fun w hC => r_move hl rfl) rfl ?_
        clear hl a; intro a hl
        refine d_take (i := 7) hl rfl (by kernel_rfl) (by kernel_rfl) (by kernel_rfl) (by kernel_rfl) (by kernel_rfl) rfl trivial (fun _ _ _ h => h) hM (fun w hC => r_move hl rfl) rfl ?_
        clear hl a; intro a hl
        refine d_take (i := 11) hl rfl (by kernel_rfl) (by kernel_rfl) (by kernel_rfl) (by kernel_rfl) (by kernel_rfl) rfl trivial (fun _ _ _ h => h) hM (fun w hC => r_nilCheck hl rfl) rfl ?_
        clear hl a; intro a hl
        refine d_take (i := 12) hl rfl (by kernel_rfl) (by kernel_rfl) (by kernel_rfl) (by kernel_rfl) (by kernel_rfl) rfl trivial (fun _ _ _ h => h) hM (fun w hC => r_field hl rfl fld118_2) rfl ?_
        clear hl a; intro a hl
        refine d_one (i := 8) (by kernel_rfl) rfl ?_
        try clear hM
        refine id (w_call hl hh rfl trivial rfl cal32 rfl (bit_spec ty hy16) (by repeat (first | exact keeps_nil | apply keeps_cons (by repeat (first | exact find_head | apply find_tail | apply find_skip)) (by first  | rfl) | exact keeps_self | exact keeps_left | apply keeps_app | apply keeps_mv | apply keeps_skip)) trivial ?_)
        clear hl hh a w; intro vc Fc a w hR hl hh
        obtain ⟨rfl, rfl⟩ := hR
        try simp only [List.cons_append, List.nil_append, List.append_assoc, List.append_nil] at hh
        have hM : Mem [(bb, C (arrL 50 (btV { zc with ep := updI zc.ep ty (ze ty) })) 118)] w := (memK hh (by repeat (first | exact keeps_nil | apply keeps_cons (by repeat (first | exact find_head | apply find_tail | apply find_skip)) (by first  | rfl) | exact keeps_self | exact keeps_left | apply keeps_app | apply keeps_mv | apply keeps_skip)))
        refine d_step (fun _ => hM) ?_
        refine d_take (i := 9) hl rfl (by kernel_rfl) (by kernel_rfl) (by kernel_rfl) (by kernel_rfl) (by kernel_rfl) rfl trivial (fun _ _ _ h => h) hM (fun w hC => r_andNot hl rfl rfl) rfl ?_
        clear hl a; intro a hl
        rw [andNot_mi] at hl
        refine d_take (i := 10) hl rfl (by kernel_rfl) (by kernel_rfl) (by kernel_rfl) (by kernel_rfl) (by kernel_rfl) rfl trivial (fun _ _ _ h => h) hM (fun w hC => r_or hl rfl rfl) rfl ?_
        clear hl a; intro a hl
        rw [or_mi] at hl
        refine d_takeL (i := 13) hl rfl (by kernel_rfl) (by kernel_rfl) (by kernel_rfl) (by kernel_rfl) (by kernel_rfl) rfl trivial (fun _ _ _ h => h) (fun w => r_indexA hl rfl rfl arr50 (by omega) (by omega) (by first | (simp only [Int.reduceToNat]; rfl) | exact toNat_add1 _ | exact toNat_add2 _ _ | exact toNat_emod _ _ | exact Int.toNat_natCast _ | rfl)) rfl ?_
        clear hl a; intro a hl
        refine d_one (i := 14) (by kernel_rfl) rfl ?_
        try clear hM
        refine id (w_store hl hh trivial one37 rfl rfl (by repeat (first | exact find_head | apply find_tail | apply find_skip)) (by first | (simp; done) | (simp; omega) | (rw [arrL_length]; omega)) (by first | rfl | assumption | (apply Row.one; assumption)) (by first | exact bt_sEnded _ | exact bt_sWoken _ | exact bt_sAdd _ ht16 | exact bt_sDel _ ht16 | exact bt_sEp _ ht16 | exact set_ep ht16 | exact bt_sEnded _ | exact bt_sWoken _ | exact bt_sAdd _ hy16 | exact bt_sDel _ hy16 | exact bt_sEp _ hy16 | exact set_ep hy16 | (simp only [setL, List.getElem?_cons_zero, List.getElem?_cons_succ, Value.cells, List.take_zero, List.take_succ_cons, List.take_nil, List.drop_zero, List.drop_succ_cons, List.drop_nil, List.length_cons, List.length_nil, List.cons_append, List.nil_append, List.append_nil, Nat.zero_add, Nat.add_zero, Nat.reduceAdd, Nat.reduceBEq, Nat.reduceEqDiff, Nat.ble, BEq.rfl, Bool.and_true, Bool.and_self, cond_true, beq_self_eq_true]; rfl)) ?_)
        clear hh w; intro w hh
        refine d_step (fun h => absurd h (by decide)) ?_
        refine d_done (by kernel_rfl) ?_
        try clear hM
        have hl2 := hl.add (t := 0) (hl.add (t := 1) (hl.add (t := 13) (hl.add (t := 14) (hl.add (t := 16) (hl.add (t := 60) (hl.add (t := 61) (hl.add (t := 62) (hl.nil) rfl) rfl) rfl) rfl) rfl) rfl) rfl) rfl; clear hl; have hl := hl2; clear hl2
        refine then_normal ?_
        refine c_draw [(bb, C (arrL 50 (btV { ({ zc with ep := updI zc.ep ty (ze ty) } : Bt) with add := updB zc.add ty (zc.add ty ||| (ca &&& ~~~ bitB ty)) })) 118)] [13, 14] mixed hh ?_
        clear hh w; intro w hh
        have hM : Mem [(bb, C (arrL 50 (btV { ({ zc with ep := updI zc.ep ty (ze ty) } : Bt) with add := updB zc.add ty (zc.add ty ||| (ca &&& ~~~ bitB ty)) })) 118)] w := (memK hh (by repeat (first | exact keeps_nil | apply keeps_cons (by repeat (first | exact find_head | apply find_tail | apply find_skip)) (by first  | rfl) | exact keeps_self | exact keeps_left | apply keeps_app | apply keeps_mv | apply keeps_skip)))
        refine d_take (i := 0) hl rfl (by kernel_rfl) (by kernel_rfl) (by kernel_rfl) (by kernel_rfl) (by kernel_rfl) rfl trivial (fun _ _ _ h => h) hM (fun w hC => r_move hl rfl) rfl ?_
        clear hl a; intro a hl
        refine d_take (i := 1) hl rfl (by kernel_rfl) (by kernel_rfl) (by kernel_rfl) (by kernel_rfl) (by kernel_rfl) rfl trivial (fun _ _ _ h => h) hM (fun w hC => r_move hl rfl) rfl ?_
        clear hl a; intro a hl
        refine d_take (i := 2) hl rfl (by kernel_rfl) (by kernel_rfl) (by kernel_rfl) (by kernel_rfl) (by kernel_rfl) rfl trivial (fun _ _ _ h => h) hM (fun w hC => r_nilCheck hl rfl) rfl ?_
        clear hl a; intro a hl
        refine d_take (i := 3) hl rfl (by kernel_rfl) (by kernel_rfl) (by kernel_rfl) (by kernel_rfl) (by kernel_rfl) rfl trivial (fun _ _ _ h => h) hM (fun w hC => r_field hl rfl fld118_3) rfl ?_
        clear hl a; intro a hl
        refine d_take (i := 4) hl rfl (by kernel_rfl) (by kernel_rfl) (by kernel_rfl) (by kernel_rfl) (by kernel_rfl) rfl trivial (fun _ _ _ h => h) hM (fun w hC => r_indexA hl rfl rfl arr50 (by omega) (by omega) (by first | (simp only [Int.reduceToNat]; rfl) | exact toNat_add1 _ | exact toNat_add2 _ _ | exact toNat_emod _ _ | exact Int.toNat_natCast _ | rfl)) rfl ?_
        clear hl a; intro a hl
        refine d_take (i := 5) hl rfl (by kernel_rfl) (by kernel_rfl) (by kernel_rfl) (by kernel_rfl) (by kernel_rfl) rfl trivial (fun _ _ _ h => h) hM (fun w hC => r_loadC hl rfl one37 hC (by repeat (first | exact find_head | apply find_tail | apply find_skip)) (by first | exact tk_at htk | exact fg_p1 (hfp _) | exact tk_at hty | exact bt_ended _ | exact bt_woken _ | exact bt_add _ ht16 | exact bt_del _ ht16 | exact bt_ep _ ht16 | exact fg_ep ht16 | exact bt_ended _ | exact bt_woken _ | exact bt_add _ hy16 | exact bt_del _ hy16 | exact bt_ep _ hy16 | exact fg_ep hy16 | rfl)) rfl ?_
        clear hl a; intro a hl
        refine d_take (i := 6) hl rfl (by kernel_rfl) (by kernel_rfl) (by kernel_rfl) (by kernel_rfl) (by kernel_rfl) rfl trivial (fun _ _ _ h => h) hM (fun w hC => r_move hl rfl) rfl ?_
        clear hl a; intro a hl
        refine d_take (i := 7) hl rfl (by kernel_rfl) (by kernel_rfl) (by kernel_rfl) (by kernel_rfl) (by kernel_rfl) rfl trivial (fun _ _ _ h => h) hM (fun w hC => r_move hl rfl) rfl ?_
        clear hl a; intro a hl
        refine d_take (i := 11) hl rfl (by kernel_rfl) (by kernel_rfl) (by kernel_rfl) (by kernel_rfl) (by kernel_rfl) rfl trivial (fun _ _ _ h => h) hM (fun w hC => r_nilCheck hl rfl) rfl ?_
        clear hl a; intro a hl
        refine d_take (i := 12) hl rfl (by kernel_rfl) (by kernel_rfl) (by kernel_rfl) (by kernel_rfl) (by kernel_rfl) rfl trivial (fun _ _ _ h => h) hM (fun w hC => r_field hl rfl fld118_3) rfl ?_
        clear hl a; intro a hl
        refine d_one (i := 8) (by kernel_rfl) rfl ?_
        try clear hM
        refine id (w_call hl hh rfl trivial rfl cal32 rfl (bit_spec ty hy16) (by repeat (first | exact keeps_nil | apply keeps_cons (by repeat (first | exact find_head | apply find_tail | apply find_skip)) (by first  | rfl) | exact keeps_self | exact keeps_left | apply keeps_app | apply keeps_mv | apply keeps_skip)) trivial ?_)
        clear hl hh a w; intro vc Fc a w hR hl hh
        obtain ⟨rfl, rfl⟩ := hR
        try simp only [List.cons_append, List.nil_append, List.append_assoc, List.append_nil] at hh
        have hM : Mem [(bb, C (arrL 50 (btV { ({ zc with ep := updI zc.ep ty (ze ty) } : Bt) with add := updB zc.add ty (zc.add ty ||| (ca &&& ~~~ bitB ty)) })) 118)] w := (memK hh (by repeat (first | exact keeps_nil | apply keeps_cons (by repeat (first | exact find_head | apply find_tail | apply find_skip)) (by first  | rfl) | exact keeps_self | exact keeps_left | apply keeps_app | apply keeps_mv | apply keeps_skip)))
        refine d_step (fun _ => hM) ?_
        refine d_take (i := 9) hl rfl (by kernel_rfl) (by kernel_rfl) (by kernel_rfl) (by kernel_rfl) (by kernel_rfl) rfl trivial (fun _ _ _ h => h) hM (fun w hC => r_andNot hl rfl rfl) rfl ?_
        clear hl a; intro a hl
        rw [andNot_mi] at hl
        refine d_take (i := 10) hl rfl (by kernel_rfl) (by kernel_rfl) (by kernel_rfl) (by kernel_rfl) (by kernel_rfl) rfl trivial (fun _ _ _ h => h) hM (fun w hC => r_or hl rfl rfl) rfl ?_
        clear hl a; intro a hl
        rw [or_mi] at hl
        refine d_takeL (i := 13) hl rfl (by kernel_rfl) (by kernel_rfl) (by kernel_rfl) (by kernel_rfl) (by kernel_rfl) rfl trivial (fun _ _ _ h => h) (fun w => r_indexA hl rfl rfl arr50 (by omega) (by omega) (by first | (simp only [Int.reduceToNat]; rfl) | exact toNat_add1 _ | exact toNat_add2 _ _ | exact toNat_emod _ _ | exact Int.toNat_natCast _ | rfl)) rfl ?_
        clear hl a; intro a hl
        refine d_one (i := 14) (by kernel_rfl) rfl ?_
        try clear hM
        refine id (w_store hl hh trivial one37 rfl rfl (by repeat (first | exact find_head | apply find_tail | apply find_skip)) (by first | (simp; done) | (simp; omega) | (rw [arrL_length]; omega)) (by first | rfl | assumption | (apply Row.one; assumption)) (by first | exact bt_sEnded _ | exact bt_sWoken _ | exact bt_sAdd _ ht16 | exact bt_sDel _ ht16 | exact bt_sEp _ ht16 | exact set_ep ht16 | exact bt_sEnded _ | exact bt_sWoken _ | exact bt_sAdd _ hy16 | exact bt_sDel _ hy16 | exact bt_sEp _ hy16 | exact set_ep hy16 | (simp only [setL, List.getElem?_cons_zero, List.getElem?_cons_succ, Value.cells, List.take_zero, List.take_succ_cons, List.take_nil, List.drop_zero, List.drop_succ_cons, List.drop_nil, List.length_cons, List.length_nil, List.cons_append, List.nil_append, List.append_nil, Nat.zero_add, Nat.add_zero, Nat.reduceAdd, Nat.reduceBEq, Nat.reduceEqDiff, Nat.ble, BEq.rfl, Bool.and_true, Bool.and_self, cond_true, beq_self_eq_true]; rfl)) ?_)
        clear hh w; intro w hh
        refine d_step (fun h => absurd h (by decide)) ?_
        refine d_done (by kernel_rfl) ?_
        try clear hM
        have hl2 := hl.add (t := 0) (hl.add (t := 1) (hl.add (t := 13) (hl.add (t := 14) (hl.add (t := 60) (hl.add (t := 61) (hl.add (t := 62) (hl.nil) rfl) rfl) rfl) rfl) rfl) rfl) rfl; clear hl; have hl := hl2; clear hl2
        refine blk_normal ?_
        refine then_normal ?_
        refine c_region ?_
        first | refine wl (wl_val hl rfl trivial (r_add hl rfl rfl (by simp only [Fits]; omega)) ?_) | refine wl (wl_val hl rfl trivial (r_addW hl rfl rfl) ?_)
        clear hl a; intro a hl
        refine wl (wl_val hl rfl trivial (r_move hl rfl) ?_)
        clear hl a; intro a hl
        refine w_nil ?_
        have hl2 := hl.add (t := 0) (hl.add (t := 1) (hl.add (t := 13) (hl.add (t := 14) (hl.add (t := 60) (hl.add (t := 61) (hl.add (t := 62) (hl.nil) rfl) rfl) rfl) rfl) rfl) rfl) rfl; clear hl; have hl := hl2; clear hl2
        refine then_normal ?_
        refine ⟨(j + 1), (by omega), (by omega), hl.addE (t := 62) (hl.addE (t := 0) (hl.addE (t := 1) (hl.addE (t := 13) (hl.addE (t := 14) (hl.addE (t := 60) (hl.addE (t := 61) (hl.nil) rfl (by first | rfl | (congr 1; omega))) rfl (by first | rfl | (congr 1; omega))) rfl (by first | rfl | (congr 1; omega))) rfl (by first | rfl | (congr 1; omega))) rfl (by first | rfl | (congr 1; omega))) rfl (by first | rfl | (congr 1; omega))) rfl (by first | rfl | (congr 1; omega)), hh.keep (by repeat (first | exact keeps_nil | apply keeps_cons (by repeat (first | exact find_head | apply find_tail | apply find_skip)) (by first  | exact hc_o3 hty hzc | rfl) | exact keeps_self | exact keeps_left | apply keeps_app | apply keeps_mv | apply keeps_skip))⟩
      · intro hc2
        try simp only [decide_eq_true_eq, decide_eq_false_iff_not, Bool.not_eq_true', Bool.not_eq_false', Bool.not_eq_true, Bool.not_eq_false, Bool.and_eq_true, Bool.or_eq_true, Bool.and_eq_false_iff, Bool.or_eq_false_iff, Bool.not_not, ne_eq, Int.not_lt, Int.not_le, Decidable.not_not, beq_iff_eq, bne_iff_ne] at hc2
        rw [show j = qs.length by omega, List.take_length] at hh
        refine wp_exit ?_
        refine then_exit ?_
        refine then_exit ?_
        refine blk_exit ?_
        refine f_end0 (F' := ((bg, C (arrL 146 (fgE f ze)) 94) :: (bb, C (arrL 50 (btV (hcB ze ca we zb qs))) 118) :: tbL bt ft Et)) hl hh rfl (by repeat (first | exact keeps_nil | apply keeps_cons (by repeat (first | exact find_head | apply find_tail | apply find_skip)) (by first  | rfl) | exact keeps_self | exact keeps_left | apply keeps_app | apply keeps_mv | apply keeps_skip)) ?_
        have he : hcP tb r bf (ep, b) wk = (ze, hcB ze ca we zb qs) := by unfold hcP; rw [← hzz, ← hca, ← hwe, ← hqs, if_neg hcw0]
        rw [he]
        exact ⟨rfl, rfl⟩
end Go.Proofs.Qxb6500911aGreatDoor

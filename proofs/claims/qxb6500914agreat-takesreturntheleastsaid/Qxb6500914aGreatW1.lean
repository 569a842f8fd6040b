import Derived.Test.Qxb6500914aGreatW0
namespace Go.Proofs.Qxb6500914aGreat
open Go.Eng
set_option linter.unusedVariables false
set_option linter.unusedSimpArgs false
theorem ifc76 : ifcT Tryz.prog 76 = true := by kernel_rfl
theorem fld74_1 : fieldOk Tryz.prog 74 1 1 = true := by kernel_rfl
theorem one65 : oneOk Tryz.prog 65 = true := by kernel_rfl
theorem cal32 : callable Tryz.prog 32 = true := by kernel_rfl
attribute [local irreducible] encM encP

def invokeW (W : WS) (t : Nat) (kd x y : Int) : WS := { W with run := updF W.run t (some (boxOf kd, startP (boxOf kd) t kd (cvOf kd x) (cpOf kd y))), ck := updF W.ck t kd, cv := updF W.cv t (cvOf kd x), cp := updF W.cp t (cpOf kd y), log := W.log ++ [⟨t, false, kd, cvOf kd x, cpOf kd y, 0, 0, 0⟩] }
theorem inv_no (b kb t : Nat) (W : WS) (ey F : List (Nat × Obj)) (h : Wd b kb W ey F) (ck cv cp : Int) (pv : Value) (hn : 6 ≤ t ∨ (t < 6 ∧ (W.run t).isSome = true)) : Sp Tryz.prog 26 #[.pointer (some ⟨kb, 0, none⟩), .int .i64 t, .agg ⟨[.int .u8 ck, .int .u64 cv, .int .u64 cp]⟩, pv] F (fun v F' => v = .bool false ∧ Wd b kb W ey F') := by
  obtain ⟨q, lv, E, hrow, rfl⟩ := h
  have h1 := invoke_no kb (KOf b q lv W) (fun i _ => rV_ifc q W.run i) t ck cv cp pv (hn.imp id fun h => ⟨h.1, by show isIfc (rV q W.run t) = true; rw [rV_is]; exact h.2⟩)
  refine sp_post (sp_frame (G := (b, C (arrL 16391 (encM W.m)) 116) :: (E ++ (progs q W.run ++ ey))) h1 (List.Perm.refl _)) ?_
  rintro v F' ⟨F2, ⟨rfl, rfl⟩, rfl⟩
  exact ⟨_, [], ⟨rfl, q, lv, E, hrow, rfl⟩, by simp⟩
theorem inv_yes (b kb t qb : Nat) (W : WS) (ey F : List (Nat × Obj)) (h : Wd b kb W ey F) (kd x y : Int) (ht : t < 6) (hn : W.run t = none) (hL : W.log.length ≤ 1000000) : Sp Tryz.prog 26 #[.pointer (some ⟨kb, 0, none⟩), .int .i64 t, .agg ⟨[.int .u8 kd, .int .u64 (cvOf kd x), .int .u64 (cpOf kd y)]⟩, .iface 169 (.pointer (some ⟨qb, 0, none⟩))] ((qb, C (arrL 37 (encP (startP (boxOf kd) t kd (cvOf kd x) (cpOf kd y)))) 177) :: F) (fun v F' => v = .bool true ∧ Wd b kb (invokeW W t kd x y) ey F') := by
  obtain ⟨q, lv, E, hrow, rfl⟩ := h
  have h1 := invoke_yes kb (KOf b q lv W) (fun i _ => rV_ifc q W.run i) t kd (cvOf kd x) (cpOf kd y) (.iface 169 (.pointer (some ⟨qb, 0, none⟩))) rfl ht (by show isIfc (rV q W.run t) = false; rw [rV_is, hn]; rfl) _ _ E hrow hL
  refine sp_post (sp_frame (G := (qb, C (arrL 37 (encP (startP (boxOf kd) t kd (cvOf kd x) (cpOf kd y)))) 177) :: (b, C (arrL 16391 (encM W.m)) 116) :: (progs q W.run ++ ey)) h1 ?_) ?_
  · refine (List.Perm.swap _ _ _).trans (List.Perm.cons _ ?_)
    refine List.Perm.trans ?_ List.perm_middle.symm
    exact List.Perm.cons _ List.perm_middle.symm
  · rintro v F' ⟨F2, ⟨rfl, rv2, E2, hrow2, rfl⟩, rfl⟩
    refine ⟨_, [], ⟨rfl, updF q t qb, rv2, E2, by simpa [evL, invokeW] using hrow2, rfl⟩, ?_⟩
    have hk : ({ KOf b q lv W with run := updF (KOf b q lv W).run t (.iface 169 (.pointer (some ⟨qb, 0, none⟩))), ck := updF (KOf b q lv W).ck t kd, cv := updF (KOf b q lv W).cv t (cvOf kd x), cp := updF (KOf b q lv W).cp t (cpOf kd y), log := rv2 } : KS) = KOf b (updF q t qb) rv2 (invokeW W t kd x y) := by
      unfold KOf invokeW; dsimp only; rw [rV_some]
    rw [hk, List.append_nil]
    refine List.Perm.cons _ ?_
    show (E2 ++ ((qb, C (arrL 37 (encP (startP (boxOf kd) t kd (cvOf kd x) (cpOf kd y)))) 177) :: (b, C (arrL 16391 (encM W.m)) 116) :: (progs q W.run ++ ey))).Perm ((b, C (arrL 16391 (encM W.m)) 116) :: (E2 ++ (progs (updF q t qb) (invokeW W t kd x y).run ++ ey)))
    have hpn := progs_perm (updF q t qb) (invokeW W t kd x y).run t ht
    rw [pB_some _ _ _ (boxOf kd, startP (boxOf kd) t kd (cvOf kd x) (cpOf kd y)) (by show updF W.run t _ t = _; unfold updF; rw [if_pos rfl]), show but (updF q t qb) (invokeW W t kd x y).run t = but q W.run t from but_upd q W.run t qb _, show updF q t qb t = qb by unfold updF; rw [if_pos rfl]] at hpn
    have hpo := progs_perm q W.run t ht
    rw [pB_none _ _ _ hn, List.nil_append] at hpo
    refine List.Perm.trans ?_ (((List.Perm.append_right ey (hpn.trans ((hpo.symm).cons _)).symm).append_left E2).cons _)
    refine List.Perm.trans (List.Perm.append_left E2 (List.Perm.swap _ _ _)) ?_
    exact List.perm_middle
def nb (run : Nat → Option (Bool × PG)) : Nat := ((List.range 6).map (fun t => if (run t).isSome then 1 else 0)).sum
theorem sum_upd (f g : Nat → Nat) (t : Nat) (h : ∀ s, s ≠ t → f s = g s) : ∀ l : List Nat, l.Nodup → t ∈ l → (l.map f).sum + g t = (l.map g).sum + f t
  | [], _, hm => absurd hm (by simp)
  | x :: l, hn, hm => by
    rw [List.nodup_cons] at hn
    simp only [List.map_cons, List.sum_cons]
    by_cases e : x = t
    · subst e
      have : l.map f = l.map g := List.map_congr_left fun s hs => h s fun (e : s = x) => hn.1 (e ▸ hs)
      rw [this]; omega
    · have ih := sum_upd f g t h l hn.2 (by rcases List.mem_cons.1 hm with q | q; exact absurd q.symm e; exact q)
      have := h x e
      omega
theorem nb_upd (run : Nat → Option (Bool × PG)) (t : Nat) (ht : t < 6) (y : Option (Bool × PG)) : nb (updF run t y) + (if (run t).isSome then 1 else 0) = nb run + (if y.isSome then 1 else 0) := by
  have := sum_upd (fun s => if ((updF run t y) s).isSome then 1 else 0) (fun s => if (run s).isSome then 1 else 0) t (fun s hs => by unfold updF; rw [if_neg hs]) (List.range 6) List.nodup_range (List.mem_range.2 ht)
  unfold nb
  have e : updF run t y t = y := by unfold updF; rw [if_pos rfl]
  rw [e] at this
  exact this
def LW (W : WS) : Nat := W.log.length + nb W.run
theorem LW_step (W : WS) (t : Nat) (hI : WI W) : LW (stepW W t) = LW W := by
  unfold stepW
  split
  · rfl
  · rename_i x hx
    have ht := (hI.pi t x hx).ht
    split
    · have := nb_upd W.run t ht none
      rw [hx] at this
      simp at this
      unfold LW; simp; omega
    · have := nb_upd W.run t ht (some (x.1, (stepF x.1 W.m x.2).p))
      rw [hx] at this
      simp at this
      unfold LW; simp; omega
theorem LW_inv (W : WS) (t : Nat) (kd x y : Int) (ht : t < 6) (hn : W.run t = none) : LW (invokeW W t kd x y) = LW W + 2 := by
  unfold LW invokeW
  have := nb_upd W.run t ht (some (boxOf kd, startP (boxOf kd) t kd (cvOf kd x) (cpOf kd y)))
  rw [hn] at this
  simp at this
  simp; omega
def InR (u : Int) : Prop := 0 ≤ u ∧ u < 18446744073709551616
/-- an onlooker: none, or one whose methods have contracts -/
structure Eye (wb b kb : Nat) where
  X : Type
  ev : Value
  ey : X → List (Nat × Obj)
  Good : WS → X → Prop
  st : WS → Nat → X → X
  iv : WS → Nat → X → X
  wi : ∀ W x, Good W x → WI W
  step_ok : ∀ W x t, Good W x → (W.run t).isSome = true → Good (stepW W t) (st (stepW W t) t x)
  inv_ok : ∀ W x t kd u v, Good W x → W.run t = none → t < 6 → 0 ≤ kd → kd ≤ 7 → InR u → InR v → Good (invokeW W t kd u v) (iv (invokeW W t kd u v) t x)
  sees : (ev = .nilIface ∧ ∀ W t x, st W t x = x ∧ iv W t x = x) ∨ (∃ T r f g, ev = .iface T r ∧ methOk Tryz.prog T "e2e/orderedlaw.stepped" f = true ∧ callable Tryz.prog f = true ∧ methOk Tryz.prog T "e2e/orderedlaw.invoked" g = true ∧ callable Tryz.prog g = true ∧
    (∀ W x t F, Good W x → LW W ≤ 1000000 → (W.run t).isSome = true → Wd b kb (stepW W t) (ey x) F → Sp Tryz.prog f #[r, .int .i64 (t : Int)] ((wb, C [.pointer (some ⟨b, 0, none⟩), .pointer (some ⟨kb, 0, none⟩), .int .u64 ((65536 + hd false : Nat) : Int), .int .u64 ((65536 + nd false 0 : Nat) : Int), .int .u64 ((65536 + nd false 1 : Nat) : Int), .int .u64 ((65536 + nd false 2 : Nat) : Int), .int .u64 ((65536 + nd false 3 : Nat) : Int), .int .u64 ((65536 + nd false 4 : Nat) : Int), .int .u64 ((65536 + nd false 5 : Nat) : Int), .int .u64 ((65536 + nd false 6 : Nat) : Int), .int .i64 (wd false : Int), .int .u64 ((65536 + hd true : Nat) : Int), .int .u64 ((65536 + nd true 0 : Nat) : Int), .int .u64 ((65536 + nd true 1 : Nat) : Int), .int .u64 ((65536 + nd true 2 : Nat) : Int), .int .u64 ((65536 + nd true 3 : Nat) : Int), .int .u64 ((65536 + nd true 4 : Nat) : Int), .int .u64 ((65536 + nd true 5 : Nat) : Int), .int .u64 ((65536 + nd true 6 : Nat) : Int), .int .i64 (wd true : Int)] 74) :: F) (fun v F' => ∃ F2, Wd b kb (stepW W t) (ey (st (stepW W t) t x)) F2 ∧ F' = (wb, C [.pointer (some ⟨b, 0, none⟩), .pointer (some ⟨kb, 0, none⟩), .int .u64 ((65536 + hd false : Nat) : Int), .int .u64 ((65536 + nd false 0 : Nat) : Int), .int .u64 ((65536 + nd false 1 : Nat) : Int), .int .u64 ((65536 + nd false 2 : Nat) : Int), .int .u64 ((65536 + nd false 3 : Nat) : Int), .int .u64 ((65536 + nd false 4 : Nat) : Int), .int .u64 ((65536 + nd false 5 : Nat) : Int), .int .u64 ((65536 + nd false 6 : Nat) : Int), .int .i64 (wd false : Int), .int .u64 ((65536 + hd true : Nat) : Int), .int .u64 ((65536 + nd true 0 : Nat) : Int), .int .u64 ((65536 + nd true 1 : Nat) : Int), .int .u64 ((65536 + nd true 2 : Nat) : Int), .int .u64 ((65536 + nd true 3 : Nat) : Int), .int .u64 ((65536 + nd true 4 : Nat) : Int), .int .u64 ((65536 + nd true 5 : Nat) : Int), .int .u64 ((65536 + nd true 6 : Nat) : Int), .int .i64 (wd true : Int)] 74) :: F2)) ∧
    (∀ W x t kd u y F, Good W x → LW W ≤ 1000000 → W.run t = none → t < 6 → 0 ≤ kd → kd ≤ 7 → InR u → InR y → Wd b kb (invokeW W t kd u y) (ey x) F → Sp Tryz.prog g #[r, .int .i64 (t : Int)] ((wb, C [.pointer (some ⟨b, 0, none⟩), .pointer (some ⟨kb, 0, none⟩), .int .u64 ((65536 + hd false : Nat) : Int), .int .u64 ((65536 + nd false 0 : Nat) : Int), .int .u64 ((65536 + nd false 1 : Nat) : Int), .int .u64 ((65536 + nd false 2 : Nat) : Int), .int .u64 ((65536 + nd false 3 : Nat) : Int), .int .u64 ((65536 + nd false 4 : Nat) : Int), .int .u64 ((65536 + nd false 5 : Nat) : Int), .int .u64 ((65536 + nd false 6 : Nat) : Int), .int .i64 (wd false : Int), .int .u64 ((65536 + hd true : Nat) : Int), .int .u64 ((65536 + nd true 0 : Nat) : Int), .int .u64 ((65536 + nd true 1 : Nat) : Int), .int .u64 ((65536 + nd true 2 : Nat) : Int), .int .u64 ((65536 + nd true 3 : Nat) : Int), .int .u64 ((65536 + nd true 4 : Nat) : Int), .int .u64 ((65536 + nd true 5 : Nat) : Int), .int .u64 ((65536 + nd true 6 : Nat) : Int), .int .i64 (wd true : Int)] 74) :: F) (fun v F' => ∃ F2, Wd b kb (invokeW W t kd u y) (ey (iv (invokeW W t kd u y) t x)) F2 ∧ F' = (wb, C [.pointer (some ⟨b, 0, none⟩), .pointer (some ⟨kb, 0, none⟩), .int .u64 ((65536 + hd false : Nat) : Int), .int .u64 ((65536 + nd false 0 : Nat) : Int), .int .u64 ((65536 + nd false 1 : Nat) : Int), .int .u64 ((65536 + nd false 2 : Nat) : Int), .int .u64 ((65536 + nd false 3 : Nat) : Int), .int .u64 ((65536 + nd false 4 : Nat) : Int), .int .u64 ((65536 + nd false 5 : Nat) : Int), .int .u64 ((65536 + nd false 6 : Nat) : Int), .int .i64 (wd false : Int), .int .u64 ((65536 + hd true : Nat) : Int), .int .u64 ((65536 + nd true 0 : Nat) : Int), .int .u64 ((65536 + nd true 1 : Nat) : Int), .int .u64 ((65536 + nd true 2 : Nat) : Int), .int .u64 ((65536 + nd true 3 : Nat) : Int), .int .u64 ((65536 + nd true 4 : Nat) : Int), .int .u64 ((65536 + nd true 5 : Nat) : Int), .int .u64 ((65536 + nd true 6 : Nat) : Int), .int .i64 (wd true : Int)] 74) :: F2)))
/-- a step that the onlooker sees -/
def Eye.stepX {wb b kb : Nat} (Y : Eye wb b kb) (W : WS) (t : Nat) (x : Y.X) : Y.X := if (W.run t).isSome then Y.st (stepW W t) t x else x

set_option maxHeartbeats 1000000 in
theorem wstep_no (wb b kb t : Nat) (W : WS) (ey F : List (Nat × Obj)) (ev : Value) (hF : Wd b kb W ey F) (hI : WI W) (hL : W.log.length ≤ 1000000) (hbz : (W.run t).isSome = false) : Sp Tryz.prog 18 #[.pointer (some ⟨wb, 0, none⟩), .int .i64 t, ev] ((wb, C [.pointer (some ⟨b, 0, none⟩), .pointer (some ⟨kb, 0, none⟩), .int .u64 ((65536 + hd false : Nat) : Int), .int .u64 ((65536 + nd false 0 : Nat) : Int), .int .u64 ((65536 + nd false 1 : Nat) : Int), .int .u64 ((65536 + nd false 2 : Nat) : Int), .int .u64 ((65536 + nd false 3 : Nat) : Int), .int .u64 ((65536 + nd false 4 : Nat) : Int), .int .u64 ((65536 + nd false 5 : Nat) : Int), .int .u64 ((65536 + nd false 6 : Nat) : Int), .int .i64 (wd false : Int), .int .u64 ((65536 + hd true : Nat) : Int), .int .u64 ((65536 + nd true 0 : Nat) : Int), .int .u64 ((65536 + nd true 1 : Nat) : Int), .int .u64 ((65536 + nd true 2 : Nat) : Int), .int .u64 ((65536 + nd true 3 : Nat) : Int), .int .u64 ((65536 + nd true 4 : Nat) : Int), .int .u64 ((65536 + nd true 5 : Nat) : Int), .int .u64 ((65536 + nd true 6 : Nat) : Int), .int .i64 (wd true : Int)] 74) :: F) (fun v F' => v = .bool false ∧ ∃ F2, Wd b kb (stepW W t) ey F2 ∧ F' = (wb, C [.pointer (some ⟨b, 0, none⟩), .pointer (some ⟨kb, 0, none⟩), .int .u64 ((65536 + hd false : Nat) : Int), .int .u64 ((65536 + nd false 0 : Nat) : Int), .int .u64 ((65536 + nd false 1 : Nat) : Int), .int .u64 ((65536 + nd false 2 : Nat) : Int), .int .u64 ((65536 + nd false 3 : Nat) : Int), .int .u64 ((65536 + nd false 4 : Nat) : Int), .int .u64 ((65536 + nd false 5 : Nat) : Int), .int .u64 ((65536 + nd false 6 : Nat) : Int), .int .i64 (wd false : Int), .int .u64 ((65536 + hd true : Nat) : Int), .int .u64 ((65536 + nd true 0 : Nat) : Int), .int .u64 ((65536 + nd true 1 : Nat) : Int), .int .u64 ((65536 + nd true 2 : Nat) : Int), .int .u64 ((65536 + nd true 3 : Nat) : Int), .int .u64 ((65536 + nd true 4 : Nat) : Int), .int .u64 ((65536 + nd true 5 : Nat) : Int), .int .u64 ((65536 + nd true 6 : Nat) : Int), .int .i64 (wd true : Int)] 74) :: F2) := by
  refine f_enter (args := [.pointer (some ⟨wb, 0, none⟩), .int .i64 t, ev]) Tryz.func18 rfl Tryz.ntmps18 rfl ?_
  intro w0 w a hpre hl hh
  simp only [slotsFrom, Nat.reduceAdd] at hl
  refine c_seq ?_
  refine c_region ?_
  refine wl (wl_val hl rfl trivial (r_assign hl rfl) ?_)
  clear hl a; intro a hl
  refine w_nil ?_
  have hl2 := hl.add (t := 0) (hl.add (t := 1) (hl.add (t := 2) (hl.nil) rfl) rfl) rfl; clear hl; have hl := hl2; clear hl2
  refine then_normal ?_
  refine c_seq ?_
  refine c_seq ?_
  refine c_region ?_
  refine wl (wl_val hl rfl trivial (r_move hl rfl) ?_)
  clear hl a; intro a hl
  refine wl (wl_val hl rfl trivial (r_nilCheck hl rfl) ?_)
  clear hl a; intro a hl
  refine wl (wl_val hl rfl trivial (r_field hl rfl fld74_1) ?_)
  clear hl a; intro a hl
  refine wl (w_load hl hh rfl trivial one65 rfl (by repeat (first | exact find_head | apply find_tail)) (by first | rfl) ?_)
  clear hl a; intro a hl
  refine wl (wl_val hl rfl trivial (r_move hl rfl) ?_)
  clear hl a; intro a hl
  refine wl (w_call hl hh rfl trivial rfl cal32 rfl (mstepW_spec b kb t W ey F hF hI hL) (by repeat (first | exact keeps_nil | apply keeps_cons (by repeat (first | exact find_head | apply find_tail)) (by first  | rfl) | exact keeps_self | exact keeps_left | exact keeps_right | exact keeps_swap | apply keeps_mv)) trivial ?_)
  clear hl hh a w; intro vc Fc a w hR hl hh
  obtain ⟨rfl, hW⟩ := hR
  try simp only [List.cons_append, List.nil_append] at hh
  have hh3 := hh.comm; clear hh; have hh := hh3; clear hh3
  simp only [List.cons_append, List.nil_append] at hh
  try rw [hbz] at hl
  refine wl (wl_val hl rfl trivial (r_not hl rfl) ?_)
  clear hl a; intro a hl
  refine w_nil ?_
  have hl2 := hl.add (t := 1) (hl.add (t := 2) (hl.add (t := 13) (hl.nil) rfl) rfl) rfl; clear hl; have hl := hl2; clear hl2
  refine then_normal ?_
  refine c_cond hl rfl ?_ ?_
  · intro hc0
    try simp only [decide_eq_true_eq, decide_eq_false_iff_not, Bool.not_eq_true', Bool.not_eq_false', Bool.not_eq_true, Bool.not_eq_false, Bool.and_eq_true, Bool.or_eq_true, Bool.and_eq_false_iff, Bool.or_eq_false_iff, Bool.not_not, ne_eq, Int.not_lt, Int.not_le, Decidable.not_not, beq_iff_eq, bne_iff_ne] at hc0
    refine c_seq ?_
    refine c_region ?_
    refine wl (wl_val hl rfl trivial (r_assign hl rfl) ?_)
    clear hl a; intro a hl
    refine w_nil ?_
    have hl2 := hl.add (t := 6) (hl.nil) rfl; clear hl; have hl := hl2; clear hl2
    refine then_normal ?_
    refine wp_ret ?_
    refine then_ret ?_
    refine f_ret1 (F' := (wb, C [.pointer (some ⟨b, 0, none⟩), .pointer (some ⟨kb, 0, none⟩), .int .u64 ((65536 + hd false : Nat) : Int), .int .u64 ((65536 + nd false 0 : Nat) : Int), .int .u64 ((65536 + nd false 1 : Nat) : Int), .int .u64 ((65536 + nd false 2 : Nat) : Int), .int .u64 ((65536 + nd false 3 : Nat) : Int), .int .u64 ((65536 + nd false 4 : Nat) : Int), .int .u64 ((65536 + nd false 5 : Nat) : Int), .int .u64 ((65536 + nd false 6 : Nat) : Int), .int .i64 (wd false : Int), .int .u64 ((65536 + hd true : Nat) : Int), .int .u64 ((65536 + nd true 0 : Nat) : Int), .int .u64 ((65536 + nd true 1 : Nat) : Int), .int .u64 ((65536 + nd true 2 : Nat) : Int), .int .u64 ((65536 + nd true 3 : Nat) : Int), .int .u64 ((65536 + nd true 4 : Nat) : Int), .int .u64 ((65536 + nd true 5 : Nat) : Int), .int .u64 ((65536 + nd true 6 : Nat) : Int), .int .i64 (wd true : Int)] 74) :: Fc) hl hh rfl rfl (by repeat (first | exact keeps_nil | apply keeps_cons (by repeat (first | exact find_head | apply find_tail)) (by first  | rfl) | exact keeps_self | exact keeps_left | exact keeps_right | exact keeps_swap | apply keeps_mv)) ?_
    exact ⟨rfl, Fc, hW, rfl⟩
  · intro hc0
    try simp only [decide_eq_true_eq, decide_eq_false_iff_not, Bool.not_eq_true', Bool.not_eq_false', Bool.not_eq_true, Bool.not_eq_false, Bool.and_eq_true, Bool.or_eq_true, Bool.and_eq_false_iff, Bool.or_eq_false_iff, Bool.not_not, ne_eq, Int.not_lt, Int.not_le, Decidable.not_not, beq_iff_eq, bne_iff_ne] at hc0
    exfalso; simp at hc0

set_option maxHeartbeats 1000000 in
theorem wstep_nil (wb b kb t : Nat) (W : WS) (ey F : List (Nat × Obj)) (hF : Wd b kb W ey F) (hI : WI W) (hL : W.log.length ≤ 1000000) (hbz : (W.run t).isSome = true) : Sp Tryz.prog 18 #[.pointer (some ⟨wb, 0, none⟩), .int .i64 t, .nilIface] ((wb, C [.pointer (some ⟨b, 0, none⟩), .pointer (some ⟨kb, 0, none⟩), .int .u64 ((65536 + hd false : Nat) : Int), .int .u64 ((65536 + nd false 0 : Nat) : Int), .int .u64 ((65536 + nd false 1 : Nat) : Int), .int .u64 ((65536 + nd false 2 : Nat) : Int), .int .u64 ((65536 + nd false 3 : Nat) : Int), .int .u64 ((65536 + nd false 4 : Nat) : Int), .int .u64 ((65536 + nd false 5 : Nat) : Int), .int .u64 ((65536 + nd false 6 : Nat) : Int), .int .i64 (wd false : Int), .int .u64 ((65536 + hd true : Nat) : Int), .int .u64 ((65536 + nd true 0 : Nat) : Int), .int .u64 ((65536 + nd true 1 : Nat) : Int), .int .u64 ((65536 + nd true 2 : Nat) : Int), .int .u64 ((65536 + nd true 3 : Nat) : Int), .int .u64 ((65536 + nd true 4 : Nat) : Int), .int .u64 ((65536 + nd true 5 : Nat) : Int), .int .u64 ((65536 + nd true 6 : Nat) : Int), .int .i64 (wd true : Int)] 74) :: F) (fun v F' => v = .bool true ∧ ∃ F2, Wd b kb (stepW W t) ey F2 ∧ F' = (wb, C [.pointer (some ⟨b, 0, none⟩), .pointer (some ⟨kb, 0, none⟩), .int .u64 ((65536 + hd false : Nat) : Int), .int .u64 ((65536 + nd false 0 : Nat) : Int), .int .u64 ((65536 + nd false 1 : Nat) : Int), .int .u64 ((65536 + nd false 2 : Nat) : Int), .int .u64 ((65536 + nd false 3 : Nat) : Int), .int .u64 ((65536 + nd false 4 : Nat) : Int), .int .u64 ((65536 + nd false 5 : Nat) : Int), .int .u64 ((65536 + nd false 6 : Nat) : Int), .int .i64 (wd false : Int), .int .u64 ((65536 + hd true : Nat) : Int), .int .u64 ((65536 + nd true 0 : Nat) : Int), .int .u64 ((65536 + nd true 1 : Nat) : Int), .int .u64 ((65536 + nd true 2 : Nat) : Int), .int .u64 ((65536 + nd true 3 : Nat) : Int), .int .u64 ((65536 + nd true 4 : Nat) : Int), .int .u64 ((65536 + nd true 5 : Nat) : Int), .int .u64 ((65536 + nd true 6 : Nat) : Int), .int .i64 (wd true : Int)] 74) :: F2) := by
  refine f_enter (args := [.pointer (some ⟨wb, 0, none⟩), .int .i64 t, .nilIface]) Tryz.func18 rfl Tryz.ntmps18 rfl ?_
  intro w0 w a hpre hl hh
  simp only [slotsFrom, Nat.reduceAdd] at hl
  refine c_seq ?_
  refine c_region ?_
  refine wl (wl_val hl rfl trivial (r_assign hl rfl) ?_)
  clear hl a; intro a hl
  refine w_nil ?_
  have hl2 := hl.add (t := 0) (hl.add (t := 1) (hl.add (t := 2) (hl.nil) rfl) rfl) rfl; clear hl; have hl := hl2; clear hl2
  refine then_normal ?_
  refine c_seq ?_
  refine c_seq ?_
  refine c_region ?_
  refine wl (wl_val hl rfl trivial (r_move hl rfl) ?_)
  clear hl a; intro a hl
  refine wl (wl_val hl rfl trivial (r_nilCheck hl rfl) ?_)
  clear hl a; intro a hl
  refine wl (wl_val hl rfl trivial (r_field hl rfl fld74_1) ?_)
  clear hl a; intro a hl
  refine wl (w_load hl hh rfl trivial one65 rfl (by repeat (first | exact find_head | apply find_tail)) (by first | rfl) ?_)
  clear hl a; intro a hl
  refine wl (wl_val hl rfl trivial (r_move hl rfl) ?_)
  clear hl a; intro a hl
  refine wl (w_call hl hh rfl trivial rfl cal32 rfl (mstepW_spec b kb t W ey F hF hI hL) (by repeat (first | exact keeps_nil | apply keeps_cons (by repeat (first | exact find_head | apply find_tail)) (by first  | rfl) | exact keeps_self | exact keeps_left | exact keeps_right | exact keeps_swap | apply keeps_mv)) trivial ?_)
  clear hl hh a w; intro vc Fc a w hR hl hh
  obtain ⟨rfl, hW⟩ := hR
  try simp only [List.cons_append, List.nil_append] at hh
  have hh3 := hh.comm; clear hh; have hh := hh3; clear hh3
  simp only [List.cons_append, List.nil_append] at hh
  try rw [hbz] at hl
  refine wl (wl_val hl rfl trivial (r_not hl rfl) ?_)
  clear hl a; intro a hl
  refine w_nil ?_
  have hl2 := hl.add (t := 1) (hl.add (t := 2) (hl.add (t := 13) (hl.nil) rfl) rfl) rfl; clear hl; have hl := hl2; clear hl2
  refine then_normal ?_
  refine c_cond hl rfl ?_ ?_
  · intro hc0
    try simp only [decide_eq_true_eq, decide_eq_false_iff_not, Bool.not_eq_true', Bool.not_eq_false', Bool.not_eq_true, Bool.not_eq_false, Bool.and_eq_true, Bool.or_eq_true, Bool.and_eq_false_iff, Bool.or_eq_false_iff, Bool.not_not, ne_eq, Int.not_lt, Int.not_le, Decidable.not_not, beq_iff_eq, bne_iff_ne] at hc0
    exfalso; simp at hc0
  · intro hc0
    try simp only [decide_eq_true_eq, decide_eq_false_iff_not, Bool.not_eq_true', Bool.not_eq_false', Bool.not_eq_true, Bool.not_eq_false, Bool.and_eq_true, Bool.or_eq_true, Bool.and_eq_false_iff, Bool.or_eq_false_iff, Bool.not_not, ne_eq, Int.not_lt, Int.not_le, Decidable.not_not, beq_iff_eq, bne_iff_ne] at hc0
    refine wp_skip ?_
    refine then_normal ?_
    refine c_seq ?_
    refine c_seq ?_
    refine c_region ?_
    refine wl (wl_val hl rfl trivial (r_move hl rfl) ?_)
    clear hl a; intro a hl
    first | refine wl (wl_val hl rfl trivial (r_neq_ifcN hl rfl ifc76) ?_) | refine wl (wl_val hl rfl trivial (r_neq_ifcS hl rfl ifc76) ?_)
    clear hl a; intro a hl
    refine w_nil ?_
    have hl2 := hl.add (t := 1) (hl.add (t := 2) (hl.add (t := 15) (hl.nil) rfl) rfl) rfl; clear hl; have hl := hl2; clear hl2
    refine then_normal ?_
    refine c_cond hl rfl ?_ ?_
    · intro hc1
      try simp only [decide_eq_true_eq, decide_eq_false_iff_not, Bool.not_eq_true', Bool.not_eq_false', Bool.not_eq_true, Bool.not_eq_false, Bool.and_eq_true, Bool.or_eq_true, Bool.and_eq_false_iff, Bool.or_eq_false_iff, Bool.not_not, ne_eq, Int.not_lt, Int.not_le, Decidable.not_not, beq_iff_eq, bne_iff_ne] at hc1
      exfalso; simp at hc1
    · intro hc1
      try simp only [decide_eq_true_eq, decide_eq_false_iff_not, Bool.not_eq_true', Bool.not_eq_false', Bool.not_eq_true, Bool.not_eq_false, Bool.and_eq_true, Bool.or_eq_true, Bool.and_eq_false_iff, Bool.or_eq_false_iff, Bool.not_not, ne_eq, Int.not_lt, Int.not_le, Decidable.not_not, beq_iff_eq, bne_iff_ne] at hc1
      refine wp_skip ?_
      refine then_normal ?_
      refine c_seq ?_
      refine c_region ?_
      refine wl (wl_val hl rfl trivial (r_assign hl rfl) ?_)
      clear hl a; intro a hl
      refine w_nil ?_
      have hl2 := hl.add (t := 6) (hl.nil) rfl; clear hl; have hl := hl2; clear hl2
      refine then_normal ?_
      refine wp_ret ?_
      refine f_ret1 (F' := (wb, C [.pointer (some ⟨b, 0, none⟩), .pointer (some ⟨kb, 0, none⟩), .int .u64 ((65536 + hd false : Nat) : Int), .int .u64 ((65536 + nd false 0 : Nat) : Int), .int .u64 ((65536 + nd false 1 : Nat) : Int), .int .u64 ((65536 + nd false 2 : Nat) : Int), .int .u64 ((65536 + nd false 3 : Nat) : Int), .int .u64 ((65536 + nd false 4 : Nat) : Int), .int .u64 ((65536 + nd false 5 : Nat) : Int), .int .u64 ((65536 + nd false 6 : Nat) : Int), .int .i64 (wd false : Int), .int .u64 ((65536 + hd true : Nat) : Int), .int .u64 ((65536 + nd true 0 : Nat) : Int), .int .u64 ((65536 + nd true 1 : Nat) : Int), .int .u64 ((65536 + nd true 2 : Nat) : Int), .int .u64 ((65536 + nd true 3 : Nat) : Int), .int .u64 ((65536 + nd true 4 : Nat) : Int), .int .u64 ((65536 + nd true 5 : Nat) : Int), .int .u64 ((65536 + nd true 6 : Nat) : Int), .int .i64 (wd true : Int)] 74) :: Fc) hl hh rfl rfl (by repeat (first | exact keeps_nil | apply keeps_cons (by repeat (first | exact find_head | apply find_tail)) (by first  | rfl) | exact keeps_self | exact keeps_left | exact keeps_right | exact keeps_swap | apply keeps_mv)) ?_
      exact ⟨rfl, Fc, hW, rfl⟩

set_option maxHeartbeats 1000000 in
theorem wstep_eye (wb b kb t : Nat) (W : WS) (ey ey2 F : List (Nat × Obj)) (T : Nat) (r : Value) (f : Nat) (hm : methOk Tryz.prog T "e2e/orderedlaw.stepped" f = true) (hcal : callable Tryz.prog f = true) (hsp : ∀ F, Wd b kb (stepW W t) ey F → Sp Tryz.prog f #[r, .int .i64 (t : Int)] ((wb, C [.pointer (some ⟨b, 0, none⟩), .pointer (some ⟨kb, 0, none⟩), .int .u64 ((65536 + hd false : Nat) : Int), .int .u64 ((65536 + nd false 0 : Nat) : Int), .int .u64 ((65536 + nd false 1 : Nat) : Int), .int .u64 ((65536 + nd false 2 : Nat) : Int), .int .u64 ((65536 + nd false 3 : Nat) : Int), .int .u64 ((65536 + nd false 4 : Nat) : Int), .int .u64 ((65536 + nd false 5 : Nat) : Int), .int .u64 ((65536 + nd false 6 : Nat) : Int), .int .i64 (wd false : Int), .int .u64 ((65536 + hd true : Nat) : Int), .int .u64 ((65536 + nd true 0 : Nat) : Int), .int .u64 ((65536 + nd true 1 : Nat) : Int), .int .u64 ((65536 + nd true 2 : Nat) : Int), .int .u64 ((65536 + nd true 3 : Nat) : Int), .int .u64 ((65536 + nd true 4 : Nat) : Int), .int .u64 ((65536 + nd true 5 : Nat) : Int), .int .u64 ((65536 + nd true 6 : Nat) : Int), .int .i64 (wd true : Int)] 74) :: F) (fun v F' => ∃ F2, Wd b kb (stepW W t) ey2 F2 ∧ F' = (wb, C [.pointer (some ⟨b, 0, none⟩), .pointer (some ⟨kb, 0, none⟩), .int .u64 ((65536 + hd false : Nat) : Int), .int .u64 ((65536 + nd false 0 : Nat) : Int), .int .u64 ((65536 + nd false 1 : Nat) : Int), .int .u64 ((65536 + nd false 2 : Nat) : Int), .int .u64 ((65536 + nd false 3 : Nat) : Int), .int .u64 ((65536 + nd false 4 : Nat) : Int), .int .u64 ((65536 + nd false 5 : Nat) : Int), .int .u64 ((65536 + nd false 6 : Nat) : Int), .int .i64 (wd false : Int), .int .u64 ((65536 + hd true : Nat) : Int), .int .u64 ((65536 + nd true 0 : Nat) : Int), .int .u64 ((65536 + nd true 1 : Nat) : Int), .int .u64 ((65536 + nd true 2 : Nat) : Int), .int .u64 ((65536 + nd true 3 : Nat) : Int), .int .u64 ((65536 + nd true 4 : Nat) : Int), .int .u64 ((65536 + nd true 5 : Nat) : Int), .int .u64 ((65536 + nd true 6 : Nat) : Int), .int .i64 (wd true : Int)] 74) :: F2)) (hF : Wd b kb W ey F) (hI : WI W) (hL : W.log.length ≤ 1000000) (hbz : (W.run t).isSome = true) : Sp Tryz.prog 18 #[.pointer (some ⟨wb, 0, none⟩), .int .i64 t, .iface T r] ((wb, C [.pointer (some ⟨b, 0, none⟩), .pointer (some ⟨kb, 0, none⟩), .int .u64 ((65536 + hd false : Nat) : Int), .int .u64 ((65536 + nd false 0 : Nat) : Int), .int .u64 ((65536 + nd false 1 : Nat) : Int), .int .u64 ((65536 + nd false 2 : Nat) : Int), .int .u64 ((65536 + nd false 3 : Nat) : Int), .int .u64 ((65536 + nd false 4 : Nat) : Int), .int .u64 ((65536 + nd false 5 : Nat) : Int), .int .u64 ((65536 + nd false 6 : Nat) : Int), .int .i64 (wd false : Int), .int .u64 ((65536 + hd true : Nat) : Int), .int .u64 ((65536 + nd true 0 : Nat) : Int), .int .u64 ((65536 + nd true 1 : Nat) : Int), .int .u64 ((65536 + nd true 2 : Nat) : Int), .int .u64 ((65536 + nd true 3 : Nat) : Int), .int .u64 ((65536 + nd true 4 : Nat) : Int), .int .u64 ((65536 + nd true 5 : Nat) : Int), .int .u64 ((65536 + nd true 6 : Nat) : Int), .int .i64 (wd true : Int)] 74) :: F) (fun v F' => v = .bool true ∧ ∃ F2, Wd b kb (stepW W t) ey2 F2 ∧ F' = (wb, C [.pointer (some ⟨b, 0, none⟩), .pointer (some ⟨kb, 0, none⟩), .int .u64 ((65536 + hd false : Nat) : Int), .int .u64 ((65536 + nd false 0 : Nat) : Int), .int .u64 ((65536 + nd false 1 : Nat) : Int), .int .u64 ((65536 + nd false 2 : Nat) : Int), .int .u64 ((65536 + nd false 3 : Nat) : Int), .int .u64 ((65536 + nd false 4 : Nat) : Int), .int .u64 ((65536 + nd false 5 : Nat) : Int), .int .u64 ((65536 + nd false 6 : Nat) : Int), .int .i64 (wd false : Int), .int .u64 ((65536 + hd true : Nat) : Int), .int .u64 ((65536 + nd true 0 : Nat) : Int), .int .u64 ((65536 + nd true 1 : Nat) : Int), .int .u64 ((65536 + nd true 2 : Nat) : Int), .int .u64 ((65536 + nd true 3 : Nat) : Int), .int .u64 ((65536 + nd true 4 : Nat) : Int), .int .u64 ((65536 + nd true 5 : Nat) : Int), .int .u64 ((65536 + nd true 6 : Nat) : Int), .int .i64 (wd true : Int)] 74) :: F2) := by
  refine f_enter (args := [.pointer (some ⟨wb, 0, none⟩), .int .i64 t, .iface T r]) Tryz.func18 rfl Tryz.ntmps18 rfl ?_
  intro w0 w a hpre hl hh
  simp only [slotsFrom, Nat.reduceAdd] at hl
  refine c_seq ?_
  refine c_region ?_
  refine wl (wl_val hl rfl trivial (r_assign hl rfl) ?_)
  clear hl a; intro a hl
  refine w_nil ?_
  have hl2 := hl.add (t := 0) (hl.add (t := 1) (hl.add (t := 2) (hl.nil) rfl) rfl) rfl; clear hl; have hl := hl2; clear hl2
  refine then_normal ?_
  refine c_seq ?_
  refine c_seq ?_
  refine c_region ?_
  refine wl (wl_val hl rfl trivial (r_move hl rfl) ?_)
  clear hl a; intro a hl
  refine wl (wl_val hl rfl trivial (r_nilCheck hl rfl) ?_)
  clear hl a; intro a hl
  refine wl (wl_val hl rfl trivial (r_field hl rfl fld74_1) ?_)
  clear hl a; intro a hl
  refine wl (w_load hl hh rfl trivial one65 rfl (by repeat (first | exact find_head | apply find_tail)) (by first | rfl) ?_)
  clear hl a; intro a hl
  refine wl (wl_val hl rfl trivial (r_move hl rfl) ?_)
  clear hl a; intro a hl
  refine wl (w_call hl hh rfl trivial rfl cal32 rfl (mstepW_spec b kb t W ey F hF hI hL) (by repeat (first | exact keeps_nil | apply keeps_cons (by repeat (first | exact find_head | apply find_tail)) (by first  | rfl) | exact keeps_self | exact keeps_left | exact keeps_right | exact keeps_swap | apply keeps_mv)) trivial ?_)
  clear hl hh a w; intro vc Fc a w hR hl hh
  obtain ⟨rfl, hW⟩ := hR
  try simp only [List.cons_append, List.nil_append] at hh
  have hh3 := hh.comm; clear hh; have hh := hh3; clear hh3
  simp only [List.cons_append, List.nil_append] at hh
  try rw [hbz] at hl
  refine wl (wl_val hl rfl trivial (r_not hl rfl) ?_)
  clear hl a; intro a hl
  refine w_nil ?_
  have hl2 := hl.add (t := 1) (hl.add (t := 2) (hl.add (t := 13) (hl.nil) rfl) rfl) rfl; clear hl; have hl := hl2; clear hl2
  refine then_normal ?_
  refine c_cond hl rfl ?_ ?_
  · intro hc0
    try simp only [decide_eq_true_eq, decide_eq_false_iff_not, Bool.not_eq_true', Bool.not_eq_false', Bool.not_eq_true, Bool.not_eq_false, Bool.and_eq_true, Bool.or_eq_true, Bool.and_eq_false_iff, Bool.or_eq_false_iff, Bool.not_not, ne_eq, Int.not_lt, Int.not_le, Decidable.not_not, beq_iff_eq, bne_iff_ne] at hc0
    exfalso; simp at hc0
  · intro hc0
    try simp only [decide_eq_true_eq, decide_eq_false_iff_not, Bool.not_eq_true', Bool.not_eq_false', Bool.not_eq_true, Bool.not_eq_false, Bool.and_eq_true, Bool.or_eq_true, Bool.and_eq_false_iff, Bool.or_eq_false_iff, Bool.not_not, ne_eq, Int.not_lt, Int.not_le, Decidable.not_not, beq_iff_eq, bne_iff_ne] at hc0
    refine wp_skip ?_
    refine then_normal ?_
    refine c_seq ?_
    refine c_seq ?_
    refine c_region ?_
    refine wl (wl_val hl rfl trivial (r_move hl rfl) ?_)
    clear hl a; intro a hl
    first | refine wl (wl_val hl rfl trivial (r_neq_ifcN hl rfl ifc76) ?_) | refine wl (wl_val hl rfl trivial (r_neq_ifcS hl rfl ifc76) ?_)
    clear hl a; intro a hl
    refine w_nil ?_
    have hl2 := hl.add (t := 1) (hl.add (t := 2) (hl.add (t := 15) (hl.nil) rfl) rfl) rfl; clear hl; have hl := hl2; clear hl2
    refine then_normal ?_
    refine c_cond hl rfl ?_ ?_
    · intro hc1
      try simp only [decide_eq_true_eq, decide_eq_false_iff_not, Bool.not_eq_true', Bool.not_eq_false', Bool.not_eq_true, Bool.not_eq_false, Bool.and_eq_true, Bool.or_eq_true, Bool.and_eq_false_iff, Bool.or_eq_false_iff, Bool.not_not, ne_eq, Int.not_lt, Int.not_le, Decidable.not_not, beq_iff_eq, bne_iff_ne] at hc1
      refine c_region ?_
      refine wl (wl_val hl rfl trivial (r_move hl rfl) ?_)
      clear hl a; intro a hl
      refine wl (wl_val hl rfl trivial (r_move hl rfl) ?_)
      clear hl a; intro a hl
      refine wl (w_callI hl hh rfl trivial rfl hm hcal rfl (hsp Fc hW) keeps_self trivial ?_)
      clear hl hh a w; intro vc Fd a w hR2 hl hh
      obtain ⟨F2, hW2, rfl⟩ := hR2
      simp only [List.append_nil] at hh
      refine w_nil ?_
      have hl2 := hl.nil; clear hl; have hl := hl2; clear hl2
      refine then_normal ?_
      refine c_seq ?_
      refine c_region ?_
      refine wl (wl_val hl rfl trivial (r_assign hl rfl) ?_)
      clear hl a; intro a hl
      refine w_nil ?_
      have hl2 := hl.add (t := 6) (hl.nil) rfl; clear hl; have hl := hl2; clear hl2
      refine then_normal ?_
      refine wp_ret ?_
      refine f_ret1 (F' := (wb, C [.pointer (some ⟨b, 0, none⟩), .pointer (some ⟨kb, 0, none⟩), .int .u64 ((65536 + hd false : Nat) : Int), .int .u64 ((65536 + nd false 0 : Nat) : Int), .int .u64 ((65536 + nd false 1 : Nat) : Int), .int .u64 ((65536 + nd false 2 : Nat) : Int), .int .u64 ((65536 + nd false 3 : Nat) : Int), .int .u64 ((65536 + nd false 4 : Nat) : Int), .int .u64 ((65536 + nd false 5 : Nat) : Int), .int .u64 ((65536 + nd false 6 : Nat) : Int), .int .i64 (wd false : Int), .int .u64 ((65536 + hd true : Nat) : Int), .int .u64 ((65536 + nd true 0 : Nat) : Int), .int .u64 ((65536 + nd true 1 : Nat) : Int), .int .u64 ((65536 + nd true 2 : Nat) : Int), .int .u64 ((65536 + nd true 3 : Nat) : Int), .int .u64 ((65536 + nd true 4 : Nat) : Int), .int .u64 ((65536 + nd true 5 : Nat) : Int), .int .u64 ((65536 + nd true 6 : Nat) : Int), .int .i64 (wd true : Int)] 74) :: F2) hl hh rfl rfl (by repeat (first | exact keeps_nil | apply keeps_cons (by repeat (first | exact find_head | apply find_tail)) (by first  | rfl) | exact keeps_self | exact keeps_left | exact keeps_right | exact keeps_swap | apply keeps_mv)) ?_
      exact ⟨rfl, F2, hW2, rfl⟩
    · intro hc1
      try simp only [decide_eq_true_eq, decide_eq_false_iff_not, Bool.not_eq_true', Bool.not_eq_false', Bool.not_eq_true, Bool.not_eq_false, Bool.and_eq_true, Bool.or_eq_true, Bool.and_eq_false_iff, Bool.or_eq_false_iff, Bool.not_not, ne_eq, Int.not_lt, Int.not_le, Decidable.not_not, beq_iff_eq, bne_iff_ne] at hc1
      exfalso; simp at hc1

theorem wstep_spec (wb b kb t : Nat) (Y : Eye wb b kb) (W : WS) (x : Y.X) (F : List (Nat × Obj)) (hF : Wd b kb W (Y.ey x) F) (hG : Y.Good W x) (hL : LW W ≤ 1000000) : Sp Tryz.prog 18 #[.pointer (some ⟨wb, 0, none⟩), .int .i64 t, Y.ev] ((wb, C [.pointer (some ⟨b, 0, none⟩), .pointer (some ⟨kb, 0, none⟩), .int .u64 ((65536 + hd false : Nat) : Int), .int .u64 ((65536 + nd false 0 : Nat) : Int), .int .u64 ((65536 + nd false 1 : Nat) : Int), .int .u64 ((65536 + nd false 2 : Nat) : Int), .int .u64 ((65536 + nd false 3 : Nat) : Int), .int .u64 ((65536 + nd false 4 : Nat) : Int), .int .u64 ((65536 + nd false 5 : Nat) : Int), .int .u64 ((65536 + nd false 6 : Nat) : Int), .int .i64 (wd false : Int), .int .u64 ((65536 + hd true : Nat) : Int), .int .u64 ((65536 + nd true 0 : Nat) : Int), .int .u64 ((65536 + nd true 1 : Nat) : Int), .int .u64 ((65536 + nd true 2 : Nat) : Int), .int .u64 ((65536 + nd true 3 : Nat) : Int), .int .u64 ((65536 + nd true 4 : Nat) : Int), .int .u64 ((65536 + nd true 5 : Nat) : Int), .int .u64 ((65536 + nd true 6 : Nat) : Int), .int .i64 (wd true : Int)] 74) :: F) (fun v F' => v = .bool (W.run t).isSome ∧ ∃ F2, Wd b kb (stepW W t) (Y.ey (Y.stepX W t x)) F2 ∧ F' = (wb, C [.pointer (some ⟨b, 0, none⟩), .pointer (some ⟨kb, 0, none⟩), .int .u64 ((65536 + hd false : Nat) : Int), .int .u64 ((65536 + nd false 0 : Nat) : Int), .int .u64 ((65536 + nd false 1 : Nat) : Int), .int .u64 ((65536 + nd false 2 : Nat) : Int), .int .u64 ((65536 + nd false 3 : Nat) : Int), .int .u64 ((65536 + nd false 4 : Nat) : Int), .int .u64 ((65536 + nd false 5 : Nat) : Int), .int .u64 ((65536 + nd false 6 : Nat) : Int), .int .i64 (wd false : Int), .int .u64 ((65536 + hd true : Nat) : Int), .int .u64 ((65536 + nd true 0 : Nat) : Int), .int .u64 ((65536 + nd true 1 : Nat) : Int), .int .u64 ((65536 + nd true 2 : Nat) : Int), .int .u64 ((65536 + nd true 3 : Nat) : Int), .int .u64 ((65536 + nd true 4 : Nat) : Int), .int .u64 ((65536 + nd true 5 : Nat) : Int), .int .u64 ((65536 + nd true 6 : Nat) : Int), .int .i64 (wd true : Int)] 74) :: F2) := by
  have hI := Y.wi W x hG
  have hL' : W.log.length ≤ 1000000 := by unfold LW at hL; omega
  by_cases hbz : (W.run t).isSome = true
  · have e : Y.stepX W t x = Y.st (stepW W t) t x := if_pos hbz
    rw [e, hbz]
    rcases Y.sees with ⟨h1, h2⟩ | ⟨T, r, f, g, h1, h2, h3, _, _, h4, _⟩
    · rw [(h2 _ _ _).1, h1]; exact wstep_nil wb b kb t W _ F hF hI hL' hbz
    · rw [h1]; exact wstep_eye wb b kb t W _ _ F T r f h2 h3 (fun F hW => h4 W x t F hG hL hbz hW) hF hI hL' hbz
  · have hbz' : (W.run t).isSome = false := by simpa using hbz
    have e : Y.stepX W t x = x := if_neg hbz
    rw [e, hbz']
    exact wstep_no wb b kb t W _ F _ hF hI hL' hbz'
end Go.Proofs.Qxb6500914aGreat

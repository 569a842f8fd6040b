import Derived.Test.Qxb6500914aQ3
namespace Go.Proofs.Qxb6500914a
open Go.Eng
set_option linter.unusedVariables false
set_option linter.unusedSimpArgs false

attribute [local irreducible] encM encP

theorem sp_more {P : Program} {f : FuncId} {args : Array Value} {A A' G : List (Nat × Obj)} {u : Value} (h : Sp P f args A (fun v F' => v = u ∧ F' = A')) : Sp P f args (A ++ G) (fun v F' => v = u ∧ F' = A' ++ G) := by
  refine sp_post (sp_frame (G := G) h (List.Perm.refl _)) ?_
  rintro v F' ⟨F2, ⟨rfl, rfl⟩, rfl⟩
  exact ⟨_, [], ⟨rfl, rfl⟩, by simp⟩
theorem perm_ob {α : Type} (a b c o : α) (l l2 : List α) : (a :: b :: c :: (l ++ (l2 ++ [o]))).Perm ([o, a, b, c] ++ (l ++ l2)) := by
  rw [← List.append_assoc]
  show ([a, b, c] ++ ((l ++ l2) ++ [o])).Perm ([o] ++ ([a, b, c] ++ (l ++ l2)))
  rw [← List.append_assoc]
  exact List.perm_append_comm
theorem perm_ob4 {α : Type} (a b c d o : α) (l : List α) : (a :: b :: c :: d :: (l ++ [o])).Perm ([o, a, b, c, d] ++ l) := by
  show ([a, b, c, d] ++ (l ++ [o])).Perm ([o] ++ ([a, b, c, d] ++ l))
  rw [← List.append_assoc]
  exact List.perm_append_comm
theorem encO_g (wb : Nat) (y : OX) (g : Nat) : encO wb { y with g := g } = encO wb y := by unfold encO OX.os; rfl
theorem ret_facts {W : WS} {x : OX} {k : Bool} {t : Nat} {p q : PG} {m' : MS} (h : OI W x) (hr : W.run t = some (k, p)) (hm : Mv k t W.m p m' q true) : q.ra ≠ 5 ∧ (q.ra = 3 → x.full t = true) ∧ (q.ra = 2 → x.empty t = true) := by
  have hT := h.th t _ hr
  cases hm with
  | answer q e hw h1 h2 h3 =>
    have hn := hT.n (.inr e) hw.symm
    exact ⟨h3, fun z => hT.full (by rw [← hn]; exact h1 z), fun z => hT.empty (by rw [← hn]; exact h2 z)⟩
  | keep q r e h4 hpr hr2 =>
    have := hT.ra (by show 5 ≤ p.pc; omega)
    have h4' : q.ra = p.ra := h4
    have hra : p.ra = 0 ∨ p.ra = 1 := this
    refine ⟨by omega, fun z => ?_, fun z => ?_⟩ <;> (exfalso; omega)
/-- a step that returns leaves the observer's marks -/
theorem accX_ret {W W' : WS} {x : OX} {k : Bool} {t : Nat} {p q : PG} {m' : MS} (h : OI W x) (hr : W.run t = some (k, p)) (hm : Mv k t W.m p m' q true) (e1 : W'.m = m') (e3 : W'.ck = W.ck) (y : OX) : accX W' t y = y := by
  have hT := h.th t _ hr
  have hbx : boxOf (W'.ck t) = k := by rw [e3, ← hT.box]
  refine accX_no ?_
  rw [hbx, e1]
  cases hm with
  | answer q e hw h1 h2 h3 => intro z; cases z
  | keep q r e h4 hpr hr2 =>
    intro _ z
    have z' : ((hd k + 1 + t : Nat) : Int) = (hd k : Int) := z
    omega
theorem did_one (c : Int) : IntKind.i64.wrap (IntKind.i64.wrap (c + 1) - c) = 1 := by
  simp only [IntKind.wrap, IntKind.bits, IntKind.signed]; simp; omega
theorem mv_cnt {k : Bool} {t : Nat} {m m' : MS} {p q : PG} {b : Bool} (hm : Mv k t m p m' q b) : m'.cnt = IntKind.i64.wrap (m.cnt + 1) := by cases hm <;> rfl
/-- what the observer makes of the access of one step -/
theorem access_mv (ob wb b kb : Nat) {W W' : WS} {x : OX} {k : Bool} {t : Nat} {p qq : PG} {m' : MS} {bb : Bool} (h : OI W x) (hr : W.run t = some (k, p)) (hm : Mv k t W.m p m' qq bb) (e1 : W'.m = m') (e3 : W'.ck = W.ck) (q : Nat → Nat) (lv : Value) :
    Sp Try.prog 84 #[.pointer (some ⟨ob, 0, none⟩), .int .i64 t, .pointer (some ⟨ob, eo (boxOf ((KOf b q lv W').ck t)), none⟩), .agg ⟨[.int .u8 W'.m.lk, .int .u32 W'.m.la, .int .u8 W'.m.ls, .bool W'.m.ld, .int .u64 W'.m.lb, .int .u64 W'.m.lf]⟩] ((ob, C (arrL 50 (encO wb { x with cnt := W'.m.cnt })) 86) :: [(wb, C [.pointer (some ⟨b, 0, none⟩), .pointer (some ⟨kb, 0, none⟩), .int .u64 ((65536 + hd false : Nat) : Int), .int .u64 ((65536 + nd false 0 : Nat) : Int), .int .u64 ((65536 + nd false 1 : Nat) : Int), .int .u64 ((65536 + nd false 2 : Nat) : Int), .int .u64 ((65536 + nd false 3 : Nat) : Int), .int .u64 ((65536 + nd false 4 : Nat) : Int), .int .u64 ((65536 + nd false 5 : Nat) : Int), .int .u64 ((65536 + nd false 6 : Nat) : Int), .int .i64 (wd false : Int), .int .u64 ((65536 + hd true : Nat) : Int), .int .u64 ((65536 + nd true 0 : Nat) : Int), .int .u64 ((65536 + nd true 1 : Nat) : Int), .int .u64 ((65536 + nd true 2 : Nat) : Int), .int .u64 ((65536 + nd true 3 : Nat) : Int), .int .u64 ((65536 + nd true 4 : Nat) : Int), .int .u64 ((65536 + nd true 5 : Nat) : Int), .int .u64 ((65536 + nd true 6 : Nat) : Int), .int .i64 (wd true : Int)] 51), (kb, C (arrL 27 (encK (KOf b q lv W'))) 41), (b, C (arrL 16391 (encM W'.m)) 75)]) (fun v F' => v = .tuple #[] ∧ F' = (ob, C (arrL 50 (encO wb (accX W' t { x with cnt := W'.m.cnt }))) 86) :: [(wb, C [.pointer (some ⟨b, 0, none⟩), .pointer (some ⟨kb, 0, none⟩), .int .u64 ((65536 + hd false : Nat) : Int), .int .u64 ((65536 + nd false 0 : Nat) : Int), .int .u64 ((65536 + nd false 1 : Nat) : Int), .int .u64 ((65536 + nd false 2 : Nat) : Int), .int .u64 ((65536 + nd false 3 : Nat) : Int), .int .u64 ((65536 + nd false 4 : Nat) : Int), .int .u64 ((65536 + nd false 5 : Nat) : Int), .int .u64 ((65536 + nd false 6 : Nat) : Int), .int .i64 (wd false : Int), .int .u64 ((65536 + hd true : Nat) : Int), .int .u64 ((65536 + nd true 0 : Nat) : Int), .int .u64 ((65536 + nd true 1 : Nat) : Int), .int .u64 ((65536 + nd true 2 : Nat) : Int), .int .u64 ((65536 + nd true 3 : Nat) : Int), .int .u64 ((65536 + nd true 4 : Nat) : Int), .int .u64 ((65536 + nd true 5 : Nat) : Int), .int .u64 ((65536 + nd true 6 : Nat) : Int), .int .i64 (wd true : Int)] 51), (kb, C (arrL 27 (encK (KOf b q lv W'))) 41), (b, C (arrL 16391 (encM W'.m)) 75)]) := by
  have hT := h.th t _ hr
  have ht : t < 6 := (h.wi.pi t _ hr).ht
  have hbx : boxOf (W'.ck t) = k := by rw [e3, ← hT.box]
  have hbk : boxOf ((KOf b q lv W').ck t) = k := hbx
  have hR : ∀ i, i < 6 → IfcV ((KOf b q lv W').run i) := fun i _ => rV_ifc q W'.run i
  rw [hbk]
  have own : 1 ≤ p.pc → p.pc ≤ 7 → ∀ s : Nat, p.sp = s → x.ow k s = t := fun a1 a2 s hs => by
    have := h.own k t ht
    rw [hr, spN_other _ _ _ _ _ (.inl (by omega)), ← hT.sp a1 a2, hs, Int.toNat_natCast] at this
    exact this
  cases hm with
  | spare qq e h1 h2 =>
    rw [accX_no (by rw [hbx, e1]; intro z; cases z), e1]
    exact sp_more (access_rd ob wb b kb _ (KOf b q lv W') W'.m k t ht 1 (.inl rfl) (hd k + 1 + t) _ _ (.inr rfl))
  | look qq kd hk e h1 h2 h3 =>
    rw [accX_no (by rw [hbx, e1]; intro z; cases z), e1]
    exact sp_more (access_rd ob wb b kb _ (KOf b q lv W') W'.m k t ht kd (hk.imp id .inr) (hd k) _ _ (.inl rfl))
  | count qq r e h1 h2 h3 hpr hr2 h4 =>
    rw [accX_no (by rw [hbx, e1]; intro z; cases z), e1]
    exact sp_more (access_node ob wb b kb _ (KOf b q lv W') W'.m k t ht 1 (.inl rfl) _ false _ _ (r % 256) 0 hr2 (by omega) rfl (fun z => by cases z))
  | copy qq i j e h1 h2 h3 h4 hi hj =>
    rw [accX_no (by rw [hbx, e1]; intro z; cases z), e1]
    exact sp_more (access_node ob wb b kb _ (KOf b q lv W') W'.m k t ht 1 (.inl rfl) _ false _ _ i j hi hj rfl (fun z => by cases z))
  | choose qq e hw h1 h2 h3 h4 =>
    rw [accX_no (by rw [hbx, e1]; intro z; cases z), e1]
    exact sp_more (access_rd ob wb b kb _ (KOf b q lv W') W'.m k t ht 1 (.inl rfl) (hd k) _ _ (.inl rfl))
  | answer qq e hw h1 h2 h3 =>
    rw [accX_no (by rw [hbx, e1]; intro z; cases z), e1]
    exact sp_more (access_rd ob wb b kb _ (KOf b q lv W') W'.m k t ht 1 (.inl rfl) (hd k) _ _ (.inl rfl))
  | write qq s j v e h1 h2 h3 h4 hs hs7 hj =>
    rw [accX_no (by
      rw [hbx, e1]; intro _ z
      have z' : ((nd k s + j : Nat) : Int) = (hd k : Int) := z
      exact hd_ne_nd k k s hs7 j hj 0 (by omega) (by omega)), e1]
    exact sp_more (access_node ob wb b kb { x with cnt := (putF (beginF W.m 2 (nd k s + j)) v (nd k s + j)).cnt } (KOf b q lv W') W'.m k t ht 2 (.inr (.inl rfl)) _ true _ _ s j hs7 hj rfl (fun _ => own (by omega) (by omega) s hs))
  | swap qq r s e h1 h2 h4 hpr hr1 hr2 hs hs7 hw =>
    have hsok := succF_ok r s (by omega)
    have hwk : W'.m.word (hd k) = ((succF r s : Nat) : Int) := by rw [e1]; exact updF_same _ _ _
    have a1 : W'.m.lb = (r : Int) := by rw [e1]; exact hw
    have a2 : W'.m.lf = ((succF r s : Nat) : Int) := by rw [e1]; rfl
    have hz : sz W'.m k = W'.m.word (nd k s) := by unfold sz; rw [hwk, Int.toNat_natCast, hsok.2]
    have hbz : (fun u => isIfc ((KOf b q lv W').run u) && (boxOf ((KOf b q lv W').ck u) == k)) = bzOn W' k := by
      funext u; show (isIfc (rV q W'.run u) && _) = _; rw [rV_is]; rfl
    have hacc : accX W' t { x with cnt := W'.m.cnt } = noteTo (fun u => isIfc ((KOf b q lv W').run u) && (boxOf ((KOf b q lv W').ck u) == k)) (W'.m.word (nd k s)) 6 (swapOw { x with cnt := W'.m.cnt } k t (r % 256) s ((succF r s : Nat) : Int)) := by
      unfold accX
      rw [hbx, if_pos ⟨by rw [e1]; rfl, by rw [e1]; rfl⟩, a1, a2, Int.toNat_natCast, Int.toNat_natCast, hsok.2, hz, hbz]
    rw [hacc]
    have h0 : W'.m.lk = 3 ∧ W'.m.la = ((hd k : Nat) : Int) ∧ W'.m.ls = 0 ∧ W'.m.ld = true := by rw [e1]; exact ⟨rfl, rfl, rfl, rfl⟩
    rw [h0.1, h0.2.1, h0.2.2.1, h0.2.2.2, a1, a2]
    exact access_swap ob wb b kb { x with cnt := W'.m.cnt } (KOf b q lv W') W'.m k t ht 3 (.inr (.inr rfl)) hR (hd k) r s hr1 hr2 hs7 rfl (own (by omega) (by omega) s hs)
  | keep qq r e h4 hpr hr2 =>
    have hown : x.ow k (r % 256) = t := by
      have := h.own k t ht
      rw [hr, spN_eight _ _ _ _ e, hpr, Int.toNat_natCast] at this
      exact this
    rw [accX_no (by
      rw [hbx, e1]; intro _ z
      have z' : ((hd k + 1 + t : Nat) : Int) = (hd k : Int) := z
      omega), e1]
    exact sp_more (access_spare ob wb b kb { x with cnt := (putF (beginF W.m 2 (hd k + 1 + t)) ((r % 256 : Nat) : Int) (hd k + 1 + t)).cnt } (KOf b q lv W') W'.m k t ht 2 (.inr (.inl rfl)) (hd k + 1 + t) _ (r % 256) hr2 rfl hown)
theorem accX_idle (W : WS) (t : Nat) (x : OX) : (accX W t x).idle = x.idle := by unfold accX; split <;> rfl
theorem stepped_eye (ob wb b kb : Nat) (W : WS) (x : OX) (t : Nat) (F : List (Nat × Obj)) (hG : Good W x) (hL : LW W ≤ 1000000) (hb : (W.run t).isSome = true) (hW : Wd b kb (stepW W t) [(ob, C (arrL 50 (encO wb x)) 86)] F) :
    Sp Try.prog 81 #[.pointer (some ⟨ob, 0, none⟩), .int .i64 (t : Int)] ((wb, C [.pointer (some ⟨b, 0, none⟩), .pointer (some ⟨kb, 0, none⟩), .int .u64 ((65536 + hd false : Nat) : Int), .int .u64 ((65536 + nd false 0 : Nat) : Int), .int .u64 ((65536 + nd false 1 : Nat) : Int), .int .u64 ((65536 + nd false 2 : Nat) : Int), .int .u64 ((65536 + nd false 3 : Nat) : Int), .int .u64 ((65536 + nd false 4 : Nat) : Int), .int .u64 ((65536 + nd false 5 : Nat) : Int), .int .u64 ((65536 + nd false 6 : Nat) : Int), .int .i64 (wd false : Int), .int .u64 ((65536 + hd true : Nat) : Int), .int .u64 ((65536 + nd true 0 : Nat) : Int), .int .u64 ((65536 + nd true 1 : Nat) : Int), .int .u64 ((65536 + nd true 2 : Nat) : Int), .int .u64 ((65536 + nd true 3 : Nat) : Int), .int .u64 ((65536 + nd true 4 : Nat) : Int), .int .u64 ((65536 + nd true 5 : Nat) : Int), .int .u64 ((65536 + nd true 6 : Nat) : Int), .int .i64 (wd true : Int)] 51) :: F) (fun v F' => ∃ F2, Wd b kb (stepW W t) [(ob, C (arrL 50 (encO wb (stX (stepW W t) t x))) 86)] F2 ∧ F' = (wb, C [.pointer (some ⟨b, 0, none⟩), .pointer (some ⟨kb, 0, none⟩), .int .u64 ((65536 + hd false : Nat) : Int), .int .u64 ((65536 + nd false 0 : Nat) : Int), .int .u64 ((65536 + nd false 1 : Nat) : Int), .int .u64 ((65536 + nd false 2 : Nat) : Int), .int .u64 ((65536 + nd false 3 : Nat) : Int), .int .u64 ((65536 + nd false 4 : Nat) : Int), .int .u64 ((65536 + nd false 5 : Nat) : Int), .int .u64 ((65536 + nd false 6 : Nat) : Int), .int .i64 (wd false : Int), .int .u64 ((65536 + hd true : Nat) : Int), .int .u64 ((65536 + nd true 0 : Nat) : Int), .int .u64 ((65536 + nd true 1 : Nat) : Int), .int .u64 ((65536 + nd true 2 : Nat) : Int), .int .u64 ((65536 + nd true 3 : Nat) : Int), .int .u64 ((65536 + nd true 4 : Nat) : Int), .int .u64 ((65536 + nd true 5 : Nat) : Int), .int .u64 ((65536 + nd true 6 : Nat) : Int), .int .i64 (wd true : Int)] 51) :: F2) := by
  have h := hG.2 (by omega)
  obtain ⟨⟨k, p⟩, hx⟩ := Option.isSome_iff_exists.1 hb
  obtain ⟨e1, e2⟩ := stepW_some hx
  have hP := h.wi.pi t _ hx
  have ht : t < 6 := hP.ht
  have hck : (stepW W t).ck = W.ck := by unfold stepW; rw [hx]; dsimp only; split <;> rfl
  have hm := mv hP h.wi.mi
  have hi := h.idle
  have hle := nb_le W.run
  have hidle : 0 ≤ x.idle ∧ x.idle ≤ 1410 := ⟨hi.1, by have := hi.2; omega⟩
  have hdid : IntKind.i64.wrap ((stepW W t).m.cnt - x.cnt) = 1 := by
    have : (stepW W t).m.cnt = IntKind.i64.wrap (W.m.cnt + 1) := by rw [e1]; exact mv_cnt hm
    rw [this, h.cnt]; exact did_one _
  obtain ⟨q, lv, E, hrow, rfl⟩ := hW
  have hA := access_mv ob wb b kb (W' := stepW W t) h hx hm e1 hck q lv
  have hR : ∀ i, i < 6 → IfcV ((KOf b q lv (stepW W t)).run i) := fun i _ => rV_ifc q (stepW W t).run i
  have hrt : (stepW W t).run t = if (stepF k W.m p).ret then none else some (k, (stepF k W.m p).p) := by rw [e2, updF_same]
  have hlogE : (stepF k W.m p).ret = true → (stepW W t).log = W.log ++ [⟨t, true, W.ck t, W.cv t, W.cp t, (stepF k W.m p).p.ra, (stepF k W.m p).p.rv, (stepF k W.m p).p.rp⟩] := fun hret => by
    unfold stepW; rw [hx]; dsimp only; rw [if_pos hret]
  generalize stepF k W.m p = R at e1 e2 hm hrt hlogE
  cases hret : R.ret
  · rw [hret] at hrt
    have hsome : ((stepW W t).run t).isSome = true := by rw [hrt]; rfl
    have hst : encO wb (stX (stepW W t) t x) = encO wb { accX (stepW W t) t { x with cnt := (stepW W t).m.cnt } with idle := x.idle + 1 } := by
      unfold stX; rw [hsome]; generalize accX (stepW W t) t { x with cnt := (stepW W t).m.cnt } = y; exact encO_g wb { y with idle := x.idle + 1 } (x.g + 1)
    have h1 := stepped_on ob wb b kb x (accX (stepW W t) t { x with cnt := (stepW W t).m.cnt }) (KOf b q lv (stepW W t)) (stepW W t).m t ht hR hdid hA (accX_idle _ _ _) hidle (by show isIfc (rV q (stepW W t).run t) = true; rw [rV_is]; exact hsome)
    refine sp_post (sp_frame (G := E ++ progs q (stepW W t).run) h1 ?_) ?_
    · exact perm_ob _ _ _ _ _ _
    · rintro v F' ⟨F2, ⟨rfl, rfl⟩, rfl⟩
      refine ⟨_, [], ⟨_, ⟨q, lv, E, hrow, rfl⟩, rfl⟩, ?_⟩
      rw [List.append_nil, hst]
      exact (perm_ob _ _ _ _ _ _).symm
  · rw [hret] at hrt hm
    have hnone : ((stepW W t).run t).isSome = false := by rw [hrt]; rfl
    have hlog := hlogE hret
    have hacc := accX_ret (W' := stepW W t) h hx hm e1 hck { x with cnt := (stepW W t).m.cnt }
    obtain ⟨f5, f3, f2⟩ := ret_facts h hx hm
    have hst : encO wb (stX (stepW W t) t x) = encO wb { accX (stepW W t) t { x with cnt := (stepW W t).m.cnt } with idle := 0 } := by
      unfold stX; rw [hnone]; generalize accX (stepW W t) t { x with cnt := (stepW W t).m.cnt } = y; exact encO_g wb { y with idle := 0 } (x.g + 1)
    have hlen : (stepW W t).log.length = W.log.length + 1 := by rw [hlog]; simp
    rcases hrow with ⟨r1, r2, r3, r4⟩ | ⟨lb, cap, junk, r1, r2, r3, r4, r5⟩
    · exfalso; omega
    · subst r5
      have hev := ev_at (stepW W t).log junk W.log.length ⟨t, true, W.ck t, W.cv t, W.cp t, R.p.ra, R.p.rv, R.p.rp⟩ (by rw [hlog]; simp)
      have hn0 : W.log.length ≤ 1000000 := by unfold LW at hL; omega
      have h1 := stepped_end ob wb b kb x (accX (stepW W t) t { x with cnt := (stepW W t).m.cnt }) (KOf b q lv (stepW W t)) (stepW W t).m t ht hR hdid hA (accX_idle _ _ _) hidle (by show isIfc (rV q (stepW W t).run t) = false; rw [rV_is]; exact hnone)
        lb W.log.length cap ((stepW W t).log.flatMap evL ++ junk) ⟨t, true, W.ck t, W.cv t, W.cp t, R.p.ra, R.p.rv, R.p.rp⟩ (by show lv = _; rw [r1, hlen]) hev hn0 f5 (by rw [hacc]; exact f3) (by rw [hacc]; exact f2)
      refine sp_post (sp_frame (G := progs q (stepW W t).run) h1 ?_) ?_
      · show ((wb, C [.pointer (some ⟨b, 0, none⟩), .pointer (some ⟨kb, 0, none⟩), .int .u64 ((65536 + hd false : Nat) : Int), .int .u64 ((65536 + nd false 0 : Nat) : Int), .int .u64 ((65536 + nd false 1 : Nat) : Int), .int .u64 ((65536 + nd false 2 : Nat) : Int), .int .u64 ((65536 + nd false 3 : Nat) : Int), .int .u64 ((65536 + nd false 4 : Nat) : Int), .int .u64 ((65536 + nd false 5 : Nat) : Int), .int .u64 ((65536 + nd false 6 : Nat) : Int), .int .i64 (wd false : Int), .int .u64 ((65536 + hd true : Nat) : Int), .int .u64 ((65536 + nd true 0 : Nat) : Int), .int .u64 ((65536 + nd true 1 : Nat) : Int), .int .u64 ((65536 + nd true 2 : Nat) : Int), .int .u64 ((65536 + nd true 3 : Nat) : Int), .int .u64 ((65536 + nd true 4 : Nat) : Int), .int .u64 ((65536 + nd true 5 : Nat) : Int), .int .u64 ((65536 + nd true 6 : Nat) : Int), .int .i64 (wd true : Int)] 51) :: (kb, C (arrL 27 (encK (KOf b q lv (stepW W t)))) 41) :: (b, C (arrL 16391 (encM (stepW W t).m)) 75) :: (lb, C ((stepW W t).log.flatMap evL ++ junk) 56) :: (progs q (stepW W t).run ++ [(ob, C (arrL 50 (encO wb x)) 86)])).Perm ((ob, C (arrL 50 (encO wb x)) 86) :: (wb, C [.pointer (some ⟨b, 0, none⟩), .pointer (some ⟨kb, 0, none⟩), .int .u64 ((65536 + hd false : Nat) : Int), .int .u64 ((65536 + nd false 0 : Nat) : Int), .int .u64 ((65536 + nd false 1 : Nat) : Int), .int .u64 ((65536 + nd false 2 : Nat) : Int), .int .u64 ((65536 + nd false 3 : Nat) : Int), .int .u64 ((65536 + nd false 4 : Nat) : Int), .int .u64 ((65536 + nd false 5 : Nat) : Int), .int .u64 ((65536 + nd false 6 : Nat) : Int), .int .i64 (wd false : Int), .int .u64 ((65536 + hd true : Nat) : Int), .int .u64 ((65536 + nd true 0 : Nat) : Int), .int .u64 ((65536 + nd true 1 : Nat) : Int), .int .u64 ((65536 + nd true 2 : Nat) : Int), .int .u64 ((65536 + nd true 3 : Nat) : Int), .int .u64 ((65536 + nd true 4 : Nat) : Int), .int .u64 ((65536 + nd true 5 : Nat) : Int), .int .u64 ((65536 + nd true 6 : Nat) : Int), .int .i64 (wd true : Int)] 51) :: (kb, C (arrL 27 (encK (KOf b q lv (stepW W t)))) 41) :: (b, C (arrL 16391 (encM (stepW W t).m)) 75) :: (lb, C ((stepW W t).log.flatMap evL ++ junk) 56) :: progs q (stepW W t).run)
        exact perm_ob4 _ _ _ _ _ _
      · rintro v F' ⟨F2, ⟨rfl, rfl⟩, rfl⟩
        refine ⟨_, [], ⟨_, ⟨q, lv, _, .inr ⟨lb, cap, junk, r1, r2, r3, r4, rfl⟩, rfl⟩, rfl⟩, ?_⟩
        rw [List.append_nil, hst]
        show ((ob, C (arrL 50 (encO wb { accX (stepW W t) t { x with cnt := (stepW W t).m.cnt } with idle := 0 })) 86) :: (wb, C [.pointer (some ⟨b, 0, none⟩), .pointer (some ⟨kb, 0, none⟩), .int .u64 ((65536 + hd false : Nat) : Int), .int .u64 ((65536 + nd false 0 : Nat) : Int), .int .u64 ((65536 + nd false 1 : Nat) : Int), .int .u64 ((65536 + nd false 2 : Nat) : Int), .int .u64 ((65536 + nd false 3 : Nat) : Int), .int .u64 ((65536 + nd false 4 : Nat) : Int), .int .u64 ((65536 + nd false 5 : Nat) : Int), .int .u64 ((65536 + nd false 6 : Nat) : Int), .int .i64 (wd false : Int), .int .u64 ((65536 + hd true : Nat) : Int), .int .u64 ((65536 + nd true 0 : Nat) : Int), .int .u64 ((65536 + nd true 1 : Nat) : Int), .int .u64 ((65536 + nd true 2 : Nat) : Int), .int .u64 ((65536 + nd true 3 : Nat) : Int), .int .u64 ((65536 + nd true 4 : Nat) : Int), .int .u64 ((65536 + nd true 5 : Nat) : Int), .int .u64 ((65536 + nd true 6 : Nat) : Int), .int .i64 (wd true : Int)] 51) :: (kb, C (arrL 27 (encK (KOf b q lv (stepW W t)))) 41) :: (b, C (arrL 16391 (encM (stepW W t).m)) 75) :: (lb, C ((stepW W t).log.flatMap evL ++ junk) 56) :: progs q (stepW W t).run).Perm ((wb, C [.pointer (some ⟨b, 0, none⟩), .pointer (some ⟨kb, 0, none⟩), .int .u64 ((65536 + hd false : Nat) : Int), .int .u64 ((65536 + nd false 0 : Nat) : Int), .int .u64 ((65536 + nd false 1 : Nat) : Int), .int .u64 ((65536 + nd false 2 : Nat) : Int), .int .u64 ((65536 + nd false 3 : Nat) : Int), .int .u64 ((65536 + nd false 4 : Nat) : Int), .int .u64 ((65536 + nd false 5 : Nat) : Int), .int .u64 ((65536 + nd false 6 : Nat) : Int), .int .i64 (wd false : Int), .int .u64 ((65536 + hd true : Nat) : Int), .int .u64 ((65536 + nd true 0 : Nat) : Int), .int .u64 ((65536 + nd true 1 : Nat) : Int), .int .u64 ((65536 + nd true 2 : Nat) : Int), .int .u64 ((65536 + nd true 3 : Nat) : Int), .int .u64 ((65536 + nd true 4 : Nat) : Int), .int .u64 ((65536 + nd true 5 : Nat) : Int), .int .u64 ((65536 + nd true 6 : Nat) : Int), .int .i64 (wd true : Int)] 51) :: (kb, C (arrL 27 (encK (KOf b q lv (stepW W t)))) 41) :: (b, C (arrL 16391 (encM (stepW W t).m)) 75) :: (lb, C ((stepW W t).log.flatMap evL ++ junk) 56) :: (progs q (stepW W t).run ++ [(ob, C (arrL 50 (encO wb { accX (stepW W t) t { x with cnt := (stepW W t).m.cnt } with idle := 0 })) 86)]))
        exact (perm_ob4 _ _ _ _ _ _).symm
theorem invoked_eye (ob wb b kb : Nat) (W : WS) (x : OX) (t : Nat) (kd u y : Int) (F : List (Nat × Obj)) (hG : Good W x) (hL : LW W ≤ 1000000) (hn : W.run t = none) (ht : t < 6) (hW : Wd b kb (invokeW W t kd u y) [(ob, C (arrL 50 (encO wb x)) 86)] F) :
    Sp Try.prog 80 #[.pointer (some ⟨ob, 0, none⟩), .int .i64 (t : Int)] ((wb, C [.pointer (some ⟨b, 0, none⟩), .pointer (some ⟨kb, 0, none⟩), .int .u64 ((65536 + hd false : Nat) : Int), .int .u64 ((65536 + nd false 0 : Nat) : Int), .int .u64 ((65536 + nd false 1 : Nat) : Int), .int .u64 ((65536 + nd false 2 : Nat) : Int), .int .u64 ((65536 + nd false 3 : Nat) : Int), .int .u64 ((65536 + nd false 4 : Nat) : Int), .int .u64 ((65536 + nd false 5 : Nat) : Int), .int .u64 ((65536 + nd false 6 : Nat) : Int), .int .i64 (wd false : Int), .int .u64 ((65536 + hd true : Nat) : Int), .int .u64 ((65536 + nd true 0 : Nat) : Int), .int .u64 ((65536 + nd true 1 : Nat) : Int), .int .u64 ((65536 + nd true 2 : Nat) : Int), .int .u64 ((65536 + nd true 3 : Nat) : Int), .int .u64 ((65536 + nd true 4 : Nat) : Int), .int .u64 ((65536 + nd true 5 : Nat) : Int), .int .u64 ((65536 + nd true 6 : Nat) : Int), .int .i64 (wd true : Int)] 51) :: F) (fun v F' => ∃ F2, Wd b kb (invokeW W t kd u y) [(ob, C (arrL 50 (encO wb (ivX (invokeW W t kd u y) t x))) 86)] F2 ∧ F' = (wb, C [.pointer (some ⟨b, 0, none⟩), .pointer (some ⟨kb, 0, none⟩), .int .u64 ((65536 + hd false : Nat) : Int), .int .u64 ((65536 + nd false 0 : Nat) : Int), .int .u64 ((65536 + nd false 1 : Nat) : Int), .int .u64 ((65536 + nd false 2 : Nat) : Int), .int .u64 ((65536 + nd false 3 : Nat) : Int), .int .u64 ((65536 + nd false 4 : Nat) : Int), .int .u64 ((65536 + nd false 5 : Nat) : Int), .int .u64 ((65536 + nd false 6 : Nat) : Int), .int .i64 (wd false : Int), .int .u64 ((65536 + hd true : Nat) : Int), .int .u64 ((65536 + nd true 0 : Nat) : Int), .int .u64 ((65536 + nd true 1 : Nat) : Int), .int .u64 ((65536 + nd true 2 : Nat) : Int), .int .u64 ((65536 + nd true 3 : Nat) : Int), .int .u64 ((65536 + nd true 4 : Nat) : Int), .int .u64 ((65536 + nd true 5 : Nat) : Int), .int .u64 ((65536 + nd true 6 : Nat) : Int), .int .i64 (wd true : Int)] 51) :: F2) := by
  have h := hG.2 (by omega)
  obtain ⟨q, lv, E, hrow, rfl⟩ := hW
  generalize hk : boxOf ((invokeW W t kd u y).ck t) = k
  obtain ⟨r, hr, _, hr7⟩ := h.wi.mi.root k
  have h1 := invoked_core ob wb b kb x (KOf b q lv (invokeW W t kd u y)) (invokeW W t kd u y).m t ht k r ((h.rt k).trans hr) hr7 hk
  have hiv : noteX { x with full := updF x.full t false, empty := updF x.empty t false } t ((invokeW W t kd u y).m.word (nd k (r % 256))) = ivX (invokeW W t kd u y) t x := by
    unfold ivX sz
    rw [hk]
    have : ((invokeW W t kd u y).m.word (hd k)).toNat % 256 = r % 256 := by rw [show (invokeW W t kd u y).m.word (hd k) = r from hr, Int.toNat_natCast]
    rw [this]
  rw [hiv] at h1
  refine sp_post (sp_frame (G := E ++ progs q (invokeW W t kd u y).run) h1 ?_) ?_
  · exact perm_ob _ _ _ _ _ _
  · rintro v F' ⟨F2, ⟨rfl, rfl⟩, rfl⟩
    refine ⟨_, [], ⟨_, ⟨q, lv, E, hrow, rfl⟩, rfl⟩, ?_⟩
    rw [List.append_nil]
    exact (perm_ob _ _ _ _ _ _).symm
theorem methS : methOk Try.prog 76 "e2e/orderedlaw.stepped" 81 = true := by kernel_rfl
theorem methI : methOk Try.prog 76 "e2e/orderedlaw.invoked" 80 = true := by kernel_rfl
theorem calS : callable Try.prog 81 = true := by kernel_rfl
theorem calI : callable Try.prog 80 = true := by kernel_rfl
def obsEye (wb b kb ob : Nat) : Eye wb b kb where
  X := OX
  ev := .iface 76 (.pointer (some ⟨ob, 0, none⟩))
  ey := fun x => [(ob, C (arrL 50 (encO wb x)) 86)]
  Good := Good
  st := stX
  iv := ivX
  wi := fun W x h => h.1
  step_ok := fun W x t h hb => h.step t hb
  inv_ok := fun W x t kd u v h hn ht _ _ _ _ => h.inv t ht hn kd u v
  sees := .inr ⟨76, _, 81, 80, rfl, methS, calS, methI, calI, fun W x t F hG hL hb hW => stepped_eye ob wb b kb W x t F hG hL hb hW, fun W x t kd u y F hG hL hn ht _ _ _ _ hW => invoked_eye ob wb b kb W x t kd u y F hG hL hn ht hW⟩
theorem Eye.solo_good {wb b kb : Nat} (Y : Eye wb b kb) (t : Nat) : ∀ n W x, Y.Good W x → Y.Good (Y.solo t n W x).2.1 (Y.solo t n W x).2.2 ∧ LW (Y.solo t n W x).2.1 = LW W
  | 0, W, x, h => ⟨h, rfl⟩
  | n + 1, W, x, h => by
    simp only [Eye.solo]
    split
    · have := Y.solo_good t n (stepW W t) (Y.stepX W t x) (Y.step_good t h)
      exact ⟨this.1, this.2.trans (LW_step W t (Y.wi W x h))⟩
    · exact ⟨h, rfl⟩
theorem Eye.play_good {wb b kb : Nat} (Y : Eye wb b kb) (W : WS) (x : Y.X) (kd : Int) (th : Nat) (u v : Int) (h0 : 0 ≤ kd) (hu : InR u) (hv : InR v) (h : Y.Good W x) : Y.Good (Y.play W x kd th u v).1 (Y.play W x kd th u v).2 ∧ LW (Y.play W x kd th u v).1 ≤ LW W + 2 := by
  unfold Eye.play
  split
  · exact ⟨Y.step_good th h, by rw [LW_step W th (Y.wi W x h)]; omega⟩
  · split
    · have := Y.solo_good th 64 W x h
      exact ⟨this.1, by rw [this.2]; omega⟩
    · split
      · rename_i hc
        obtain ⟨h7, h6, hi⟩ := hc
        have hn : W.run th = none := by simpa using hi
        exact ⟨Y.inv_ok W x th kd u v h hn h6 h0 h7 hu hv, by rw [LW_inv W th kd u v h6 hn]; omega⟩
      · exact ⟨h, Nat.le_add_right _ _⟩

end Go.Proofs.Qxb6500914a

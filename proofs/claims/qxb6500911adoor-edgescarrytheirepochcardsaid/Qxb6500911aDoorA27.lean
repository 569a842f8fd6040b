import Derived.Test.Qxb6500911aDoorA26
namespace Go.Proofs.Qxb6500911aDoor
open Go.Eng
set_option linter.unusedVariables false
set_option linter.unusedSimpArgs false
theorem cal14 : callable Tryd.prog 14 = true := by kernel_rfl
theorem cal49 : callable Tryd.prog 49 = true := by kernel_rfl
/-! ## emptying the mailboxes -/
theorem quietB_all {bx : Nat → List Ms} : ∀ {n}, quietB bx n = true → ∀ b, b < n → bx b = []
  | 0, _, b, hb => absurd hb (by omega)
  | n + 1, h, b, hb => by
    rw [quietB, Bool.and_eq_true] at h
    by_cases c : b = n
    · subst c; exact List.isEmpty_iff.1 h.2
    · exact quietB_all h.1 b (by omega)
theorem quietB_ex {bx : Nat → List Ms} : ∀ {n}, quietB bx n = false → ∃ b, b < n ∧ bx b ≠ []
  | 0, h => by cases h
  | n + 1, h => by
    rw [quietB, Bool.and_eq_false_iff] at h
    rcases h with h | h
    · obtain ⟨b, hb, h2⟩ := quietB_ex h; exact ⟨b, by omega, h2⟩
    · exact ⟨n, by omega, fun e => by rw [e] at h; cases h⟩
def tot (bx : Nat → List Ms) : Int := sumN (fun b => ((bx b).length : Int)) 16
theorem sumN_bd {f : Nat → Int} {K : Int} : ∀ {n : Nat}, (∀ i, i < n → 0 ≤ f i ∧ f i ≤ K) → 0 ≤ sumN f n ∧ sumN f n ≤ n * K
  | 0, _ => by simp [sumN]
  | n + 1, h => by
    have h1 := sumN_bd (n := n) (fun i hi => h i (by omega))
    have h2 := h n (by omega)
    unfold sumN
    rw [Int.natCast_add, Int.add_mul]
    have h3 : ((1 : Nat) : Int) * K = K := by simp
    rw [h3]
    omega
theorem tot_bd {B Q : Int} {g : Gs} (hG : GI B Q g) : 0 ≤ tot g.bx ∧ tot g.bx ≤ 512 := by
  have := sumN_bd (f := fun b => ((g.bx b).length : Int)) (K := 32) (n := 16) (fun i hi => by have := hG.b32 i hi; omega)
  unfold tot; omega
theorem tot_pop {bx : Nat → List Ms} {b : Nat} {x : Ms} {l : List Ms} (hb : b < 16) (h : bx b = x :: l) : tot (bxU bx b l) = tot bx - 1 := by
  unfold tot
  have : (fun j => ((bxU bx b l j).length : Int)) = fun j => if j = b then (l.length : Int) else ((bx j).length : Int) := by
    funext j; unfold bxU; split <;> rfl
  rw [this, sumN_upd (f := fun j => ((bx j).length : Int)) hb, h, List.length_cons]
  omega
structure DZ where
  g : Gs
  M : Mm
  p : Int
  d : Nat
structure DrI (B Q : Int) (g0 : Gs) (z : DZ) : Prop where
  gi : GI (B + (tot g0.bx - tot z.g.bx)) Q z.g
  le : tot z.g.bx ≤ tot g0.bx
  ep : z.g.ep = g0.ep
  tb : z.g.tb = g0.tb
  mi : MIall g0 → MIall z.g
  p : -9223372036854775808 ≤ z.p ∧ z.p ≤ 9223372036854775807
  d : z.d < 16
  nx : quietB z.g.bx 16 = true ∨ z.g.bx ((foldB z.p + z.d) % 16) ≠ []
theorem nx_ex (bx : Nat → List Ms) (p : Nat) (hp : p < 16) : ∃ d, d < 16 ∧ (quietB bx 16 = true ∨ bx ((p + d) % 16) ≠ []) := by
  cases hq : quietB bx 16 with
  | true => exact ⟨0, by omega, .inl rfl⟩
  | false =>
    obtain ⟨b, hb, h⟩ := quietB_ex hq
    exact ⟨(b + 16 - p) % 16, by omega, .inr (by rw [show (p + (b + 16 - p) % 16) % 16 = b by omega]; exact h)⟩
theorem wrap_next (p : Int) (hp : -9223372036854775808 ≤ p ∧ p ≤ 9223372036854775807) : (-9223372036854775808 ≤ IntKind.i64.wrap (p + 1) ∧ IntKind.i64.wrap (p + 1) ≤ 9223372036854775807) ∧ foldB (IntKind.i64.wrap (p + 1)) = (foldB p + 1) % 16 := by
  unfold foldB
  by_cases c : p = 9223372036854775807
  · subst c; decide
  · have : IntKind.i64.wrap (p + 1) = p + 1 := wrap_fits (by simp only [Fits]; omega)
    rw [this]; omega
theorem del_shape {B Q : Int} {g : Gs} {p : Int} (hG : GI B Q g) (hq : BQ B Q) (hQ : Q ≤ 1000000000000) : (g.bx (foldB p) = [] ∧ (delG g p).1 = g) ∨ (g.bx (foldB p) ≠ [] ∧ GI (B + 1) Q (delG g p).1 ∧ tot (delG g p).1.bx = tot g.bx - 1 ∧ (delG g p).1.ep = g.ep ∧ (delG g p).1.tb = g.tb) := by
  cases hb : g.bx (foldB p) with
  | nil => exact .inl ⟨rfl, by unfold delG; rw [hb]⟩
  | cons x l =>
    obtain ⟨hG2, u, hu, hxu, hdec, hrm⟩ := hG.pop hQ hb (foldB_lt p)
    have e : (delG g p).1 = applyG { g with bx := bxU g.bx (foldB p) l } u := by
      unfold delG; rw [hb]; simp only; rw [hdl_some hdec]
    rw [e]
    exact .inr ⟨nofun, hG2.apply hq hu.w hu.e, tot_pop (foldB_lt p) hb, rfl, rfl⟩
theorem DrI.next {B Q : Int} {g0 : Gs} {z : DZ} (h : DrI B Q g0 z) (hq : BQ (B + 600) Q) (hB : 0 ≤ B) (hn : quietB z.g.bx 16 = false) (h0 : tot g0.bx ≤ 512) (M' : Mm) : ∃ d', DrI B Q g0 ⟨(delG z.g z.p).1, M', IntKind.i64.wrap (z.p + 1), d'⟩ ∧ (tot (delG z.g z.p).1.bx * 16 + d').toNat < (tot z.g.bx * 16 + z.d).toNat := by
  have hd := h.d
  have hle := h.le
  have hqq := hq.q
  have hqb := hq.b
  have ht := (tot_bd h.gi).1
  obtain ⟨hw1, hw2⟩ := wrap_next z.p h.p
  have hx : z.g.bx ((foldB z.p + z.d) % 16) ≠ [] := by
    rcases h.nx with h1 | h1
    · rw [h1] at hn; cases hn
    · exact h1
  have hmi := fun h9 => del_MI (pick := z.p) h.gi (by omega) (h.mi h9)
  have hf := foldB_lt z.p
  rcases del_shape (p := z.p) h.gi ⟨by omega, by omega⟩ (by omega) with ⟨h1, h2⟩ | ⟨h1, h2, h3, h4, h5⟩
  · have hd0 : z.d ≠ 0 := fun e => hx (by rw [e, Nat.add_zero, Nat.mod_eq_of_lt hf]; exact h1)
    refine ⟨z.d - 1, ⟨?_, ?_, ?_, ?_, hmi, hw1, by simp only; omega, .inr ?_⟩, ?_⟩
    · simp only; rw [h2]; exact h.gi
    · simp only; rw [h2]; exact hle
    · simp only; rw [h2]; exact h.ep
    · simp only; rw [h2]; exact h.tb
    · simp only
      rw [h2, hw2, show ((foldB z.p + 1) % 16 + (z.d - 1)) % 16 = (foldB z.p + z.d) % 16 by omega]; exact hx
    · rw [h2]; omega
  · obtain ⟨d', hd', hx'⟩ := nx_ex (delG z.g z.p).1.bx (foldB (IntKind.i64.wrap (z.p + 1))) (foldB_lt _)
    have ht2 := (tot_bd h2).1
    refine ⟨d', ⟨?_, ?_, h4.trans h.ep, h5.trans h.tb, hmi, hw1, hd', hx'⟩, ?_⟩
    · simp only
      rw [h3, show B + (tot g0.bx - (tot z.g.bx - 1)) = B + (tot g0.bx - tot z.g.bx) + 1 by omega]; exact h2
    · simp only; omega
    · omega
/-- what emptying gives -/
structure DrR (B Q : Int) (g g' : Gs) : Prop where
  gi : GI (B + 512) Q g'
  qt : quietB g'.bx 16 = true
  ep : g'.ep = g.ep
  tb : g'.tb = g.tb
  mi : MIall g → MIall g'
theorem DrI.done {B Q : Int} {g0 : Gs} {z : DZ} (h : DrI B Q g0 z) (hq : quietB z.g.bx 16 = true) (h0 : tot g0.bx ≤ 512) : DrR B Q g0 z.g :=
  ⟨h.gi.mono (by have := (tot_bd h.gi).1; omega) (Int.le_refl _), hq, h.ep, h.tb, h.mi⟩
/-! quiet systems with the same core -/
theorem quiet_ws {B Q : Int} {g : Gs} (hG : GI B Q g) (hM : MIall g) (hq : quietB g.bx 16 = true) {t : Nat} (ht : t < 16) : g.flr t = g.ep t ∧ ∀ e k, nt (g.ws t) e k = if e = g.ep t then b01 ((wfg g.tb t).getLsbD k) else 0 := by
  have hb := quietB_all hq
  have hmg : ∀ u, ¬ Mgv g.bx t u := by
    rintro u ⟨b, hb9, m, hm, _⟩
    rw [hb b hb9] at hm; cases hm
  have h := hM t ht
  have hfb := hG.fb t ht
  have hs2 := h.s2
  have hfl : g.flr t = g.ep t := by
    rcases h.s4 with h1 | h1 | ⟨u, hu, _⟩
    · omega
    · exact h1
    · exact absurd hu (hmg u)
  refine ⟨hfl, fun e k => ?_⟩
  by_cases c : e = g.ep t
  · subst c
    rw [if_pos rfl, ← h.s3 k, h.s5 _ _ (fun u hu => absurd hu (hmg u)), Int.add_zero]
  · rw [if_neg c]
    refine nt_none fun x hx he => c ?_
    have h1 := (hG.ok t ht).low x hx
    rcases h.s0 x hx with h2 | h2 <;> omega
structure EqO (g h : Gs) : Prop where
  ep : ∀ t, t < 16 → g.ep t = h.ep t
  flr : ∀ t, t < 16 → g.flr t = h.flr t
  ws : ∀ t, t < 16 → g.ws t = h.ws t
  bx : ∀ b, b < 16 → g.bx b = h.bx b
  tb : g.tb = h.tb
theorem quiet_eq {B Q B' Q' : Int} {g h : Gs} (hG : GI B Q g) (hM : MIall g) (hq : quietB g.bx 16 = true) (hG' : GI B' Q' h) (hM' : MIall h) (hq' : quietB h.bx 16 = true) (he : h.ep = g.ep) (ht : h.tb = g.tb) : EqO g h := by
  refine ⟨fun t _ => by rw [he], fun t h9 => ?_, fun t h9 => ?_, fun b hb => ?_, ht.symm⟩
  · rw [(quiet_ws hG hM hq h9).1, (quiet_ws hG' hM' hq' h9).1, he]
  · refine ws_ext (hG.ok t h9) (hG'.ok t h9) fun e k => ?_
    rw [(quiet_ws hG hM hq h9).2, (quiet_ws hG' hM' hq' h9).2, he, ht]
  · rw [quietB_all hq b hb, quietB_all hq' b hb]
theorem EqO.wsK {g h : Gs} (e : EqO g h) (c : Nat) : ∀ q, q < 16 → wsK g.ws c q = wsK h.ws c q := fun q hq => by unfold Go.Proofs.Qxb6500911aDoor.wsK; rw [e.ws q hq]
theorem edN_congr {f f' : Nat → List Wt} : ∀ {n}, (∀ q, q < n → f q = f' q) → edN f n = edN f' n
  | 0, _ => rfl
  | n + 1, h => by rw [edN, edN, edN_congr (fun q hq => h q (by omega)), h n (by omega)]
theorem EqO.snr {g h : Gs} (e : EqO g h) {ev bv : Nat → Value} {Ee Eb : Nat → List (Nat × Obj)} (hs : SnR h ev bv Ee Eb) : SnR g ev bv Ee Eb :=
  ⟨fun c hc => by rw [edN_congr (e.wsK c)]; exact hs.e c hc, fun b hb => by rw [e.bx b hb]; exact hs.b b hb⟩
theorem EqO.snc {g h : Gs} (e : EqO g h) (ev bv : Nat → Value) : snC h ev bv = snC g ev bv := by
  unfold snC
  rw [e.tb]
  refine arrL_congr fun j hj => ?_
  unfold stV
  split
  · rw [e.ep _ (by omega)]
  · split
    · split
      · rfl
      · unfold flK; split
        · rw [e.flr _ (by omega)]
        · rfl
    · rfl
/-- the answer and the core of a step hang on the core alone, where there is room -/
theorem room_quiet {bx : Nat → List Ms} (h : quietB bx 16 = true) {a : Nat} (ha : a < 4) : ∀ {n}, n ≤ 4 → roomP bx a n = true
  | 0, _ => rfl
  | n + 1, hn => by
    rw [roomP, room_quiet h ha (by omega), quietB_all h _ (by omega)]; simp
theorem step_core {g h : Gs} {o : DO} (he : h.ep = g.ep) (ht : h.tb = g.tb) (hq : quietB h.bx 16 = true) (hk : o.k ≠ 4) (hc : (stepG g o).2.1 ≠ 12) : (stepG h o).2 = (stepG g o).2 ∧ (stepG h o).1.ep = (stepG g o).1.ep ∧ (stepG h o).1.tb = (stepG g o).1.tb := by
  obtain ⟨ep, flr, ws, bx, tb⟩ := g
  obtain ⟨ep', flr', ws', bx', tb'⟩ := h
  simp only at he ht hq
  subst he; subst ht
  unfold stepG at hc ⊢
  by_cases k0 : o.k = 0
  · rw [if_pos k0, if_pos k0]
    unfold acqG
    split
    · simp only
      refine ⟨trivial, ?_⟩
      split <;> exact ⟨rfl, rfl⟩
    · exact ⟨rfl, rfl, rfl⟩
  rw [if_neg k0] at hc ⊢
  rw [if_neg k0]
  by_cases k1 : o.k = 1
  · rw [if_pos k1] at hc ⊢
    rw [if_pos k1]
    unfold relG at hc ⊢
    split
    · rename_i c
      rw [if_pos c] at hc
      simp only at hc ⊢
      have hr := room_quiet hq (a := (nmP o.a 16).toNat % 4) (by omega) (Nat.le_refl 4)
      rw [if_pos hr]
      by_cases c2 : roomP bx ((nmP o.a 16).toNat % 4) 4 = true
      · rw [if_pos c2]
        split
        · refine ⟨rfl, ?_, ?_⟩
          · simp only [(publ_core _ _ _ _).1]; rfl
          · simp only [(publ_core _ _ _ _).2]; rfl
        · exact ⟨rfl, rfl, rfl⟩
      · rw [if_neg c2] at hc; exact absurd rfl hc
    · exact ⟨rfl, rfl, rfl⟩
  rw [if_neg k1] at hc ⊢
  rw [if_neg k1]
  have adm : ∀ t a, admC ⟨ep', flr, ws, bx, tb'⟩ t a ≠ 12 → admC ⟨ep', flr', ws', bx', tb'⟩ t a = admC ⟨ep', flr, ws, bx, tb'⟩ t a := by
    intro t a h1
    unfold admC at h1 ⊢
    split
    · rename_i c; rw [if_pos c] at h1
      split
      · rename_i c2; rw [if_pos c2] at h1
        simp only at h1 ⊢
        rw [if_pos (room_quiet hq (by omega) (Nat.le_refl 4))]
        split
        · rfl
        · rename_i c3; rw [if_neg c3] at h1; exact absurd rfl h1
      · rfl
    · rfl
  by_cases k2 : o.k = 2
  · rw [if_pos k2] at hc ⊢
    rw [if_pos k2]
    simp only at hc ⊢
    have ha : admC ⟨ep', flr, ws, bx, tb'⟩ (nmP o.a 16) (nmP o.b 4) ≠ 12 := fun h9 => hc (by unfold canG; rw [if_neg (by omega)]; exact h9)
    have hb := adm _ _ ha
    unfold canG
    rw [hb]
    split
    · simp only
      split
      · refine ⟨rfl, ?_, ?_⟩
        · simp only [(publ_core _ _ _ _).1]; rfl
        · simp only [(publ_core _ _ _ _).2]; rfl
      · exact ⟨rfl, rfl, rfl⟩
    · exact ⟨rfl, rfl, rfl⟩
  rw [if_neg k2] at hc ⊢
  rw [if_neg k2]
  by_cases k3 : o.k = 3
  · rw [if_pos k3] at hc ⊢
    rw [if_pos k3]
    simp only at hc ⊢
    have ha : admC ⟨ep', flr, ws, bx, tb'⟩ (nmP o.a 16) (nmP o.b 4) ≠ 12 := fun h9 => hc (by unfold abG; rw [if_neg (by omega)]; exact h9)
    have hb := adm _ _ ha
    unfold abG
    rw [hb]
    split
    · refine ⟨rfl, ?_, ?_⟩
      · simp only [(publ_core _ _ _ _).1]; rfl
      · simp only [(publ_core _ _ _ _).2]; rfl
    · exact ⟨rfl, rfl, rfl⟩
  rw [if_neg k3, if_neg hk]
  rw [if_neg k3, if_neg hk]
  exact ⟨rfl, rfl, rfl⟩
theorem del_core {g : Gs} {p : Int} : (delG g p).1.ep = g.ep ∧ (delG g p).1.tb = g.tb := by
  unfold delG
  split
  · exact ⟨rfl, rfl⟩
  · unfold hdlG; split <;> exact ⟨rfl, rfl⟩
theorem step_4 {g : Gs} {o : DO} (hk : o.k = 4) : (stepG g o).1.ep = g.ep ∧ (stepG g o).1.tb = g.tb := by
  unfold stepG
  rw [if_neg (by omega), if_neg (by omega), if_neg (by omega), if_neg (by omega), if_pos hk]
  exact del_core


set_option maxHeartbeats 1000000 in
theorem quietG_spec {g : Gs} {M : Mm} (hS : SysF g M) (bg : Nat) : SpK Tryd.prog 49 #[.pointer (some ⟨bg, 0, none⟩)] (Mem (sysL bg M)) [] (fun v F' => v = .bool (quietB g.bx 16) ∧ F' = []) := by
  refine f_enter (args := [.pointer (some ⟨bg, 0, none⟩)]) Tryd.func49 rfl Tryd.ntmps49 rfl ?_
  intro w0 w a hpre hl hh
  have hmG := hpre _ _ (List.mem_append_left _ (List.mem_cons_self ..))
  have hmF := (mem_app hpre).1
  have hmM := (mem_app (mem_app hpre).2).1
  simp only [slotsFrom, Nat.reduceAdd] at hl
  refine c_seq ?_
  refine c_region ?_
  refine wl (wl_val hl rfl trivial (r_assign hl rfl) ?_)
  clear hl a; intro a hl
  refine w_nil ?_
  have hl2 := hl.add (t := 0) (hl.nil) rfl; clear hl; have hl := hl2; clear hl2
  refine then_normal ?_
  refine c_seq ?_
  refine c_region ?_
  refine wl (wl_val hl rfl trivial (r_move hl rfl) ?_)
  clear hl a; intro a hl
  refine wl (wl_val hl rfl trivial (r_nilCheck hl rfl) ?_)
  clear hl a; intro a hl
  refine wl (wl_val hl rfl trivial (r_field hl rfl fld110_0) ?_)
  clear hl a; intro a hl
  first | refine wl (w_load hl hh rfl trivial one25 rfl (by repeat (first | exact find_head | apply find_tail)) (by first | rfl) ?_) | refine wl (w_loadR hl hh rfl trivial one25 rfl hmG (by simp) (fg_p0 hS.gr.p0) ?_)
  clear hl a; intro a hl
  refine wl (w_call hl hh rfl trivial rfl cal14 rfl (quietM_spec hS.mc M.bm) (by repeat (first | exact keeps_nil | apply keeps_cons (by repeat (first | exact find_head | apply find_tail)) (by first  | rfl) | exact keeps_self | apply keeps_mv)) (mem_keep hh hmM) ?_)
  clear hl hh a w; intro vc Fc a w hR hl hh
  obtain ⟨rfl, rfl⟩ := hR
  try simp only [List.cons_append, List.nil_append] at hh
  refine wl (wl_val hl rfl trivial (r_assign hl rfl) ?_)
  clear hl a; intro a hl
  refine w_nil ?_
  have hl2 := hl.add (t := 2) (hl.nil) rfl; clear hl; have hl := hl2; clear hl2
  refine then_normal ?_
  refine wp_ret ?_
  refine f_ret1 (F' := []) hl hh rfl rfl (by repeat (first | exact keeps_nil | apply keeps_cons (by repeat (first | exact find_head | apply find_tail)) (by first  | rfl) | exact keeps_self | apply keeps_mv)) ?_
  exact ⟨rfl, rfl⟩

set_option maxHeartbeats 2000000 in
theorem drain_spec {g : Gs} {M : Mm} (hS : SysF g M) (bg : Nat) (tT : TypeId) (tf : Nat × Nat) (B Q : Int) (hq : BQ (B + 600) (Q + 400)) (hB0 : 0 ≤ B) (hQ0 : 0 ≤ Q) (hG : GI B Q g) (pick : Int) (hpk : -9223372036854775808 ≤ pick ∧ pick ≤ 9223372036854775807) : SpK Tryd.prog 19 #[.pointer (some ⟨bg, 0, none⟩), .int .i64 pick] (PreT tT tf (sysL bg M)) (sysL bg M) (fun v F' => v = .tuple #[] ∧ ∃ g' M', F' = sysL bg M' ∧ DrR B Q g g' ∧ SysF g' M' ∧ M'.bm = M.bm ∧ M'.bt = M.bt) := by
  refine f_enter (args := [.pointer (some ⟨bg, 0, none⟩), .int .i64 pick]) Tryd.func19 rfl Tryd.ntmps19 rfl ?_
  intro w0 w a hpre hl hh
  have hb1 := hq.b; have hq1 := hq.q
  have htb := tot_bd hG
  obtain ⟨d0, hd0, hx0⟩ := nx_ex g.bx (foldB pick) (foldB_lt _)
  simp only [slotsFrom, Nat.reduceAdd] at hl
  refine wp_block ?_
  obtain ⟨KS0, hKS0, hk⟩ := (hl.add (t := 0) (hl.nil) rfl).name
  obtain ⟨HS0, hHS0, hh2⟩ := hh.nameT (A := []) (U := (sysL bg M)) ((by repeat (first | exact keeps_nil | exact keeps_self | exact keeps_left | apply keeps_app | apply keeps_mv | apply keeps_skip)))
  refine c_loop (α := DZ) (fun z => (tot z.g.bx * 16 + z.d).toNat) (fun z a w => (SysF z.g z.M ∧ DrI B Q g z ∧ z.M.bm = M.bm ∧ z.M.bt = M.bt) ∧ Sl 12 ([(1, .int .i64 z.p)] ++ KS0) a ∧ Has _ w0 ([] ++ (HS0 ++ (sysL bg z.M))) w) ⟨g, M, pick, d0⟩ ⟨⟨hS, ⟨by simp only; rw [Int.sub_self, Int.add_zero]; exact hG, Int.le_refl _, rfl, rfl, id, hpk, hd0, hx0⟩, rfl, rfl⟩, hl.addE (t := 1) (hk) rfl (by first | rfl), hh2⟩ ?_
  clear hk hh2 hl hh a w
  intro z a w hI
  obtain ⟨hI, hl, hh⟩ := hI
  subst hKS0; subst hHS0
  simp only [List.cons_append, List.nil_append, List.append_nil, List.append_assoc] at hl hh
  have htz := tot_bd hI.2.1.gi
  have hle := hI.2.1.le
  refine c_seq ?_
  refine c_seq ?_
  refine c_region ?_
  refine wl (wl_val hl rfl trivial (r_move hl rfl) ?_)
  clear hl a; intro a hl
  refine wl (w_call hl hh rfl trivial rfl cal49 rfl (quietG_spec hI.1 bg) (by repeat (first | exact keeps_nil | apply keeps_cons (by repeat (first | exact find_head | apply find_tail | apply find_skip)) (by first  | rfl) | exact keeps_self | exact keeps_left | apply keeps_app | apply keeps_mv | apply keeps_skip)) (memK (E := sysL bg z.M) hh (by repeat (first | exact keeps_nil | apply keeps_cons (by repeat (first | exact find_head | apply find_tail | apply find_skip)) (by first  | rfl) | exact keeps_self | exact keeps_left | apply keeps_app | apply keeps_mv | apply keeps_skip))) ?_)
  clear hl hh a w; intro vc Fc a w hR hl hh
  obtain ⟨rfl, rfl⟩ := hR
  try simp only [List.cons_append, List.nil_append, List.append_assoc, List.append_nil] at hh
  refine wl (wl_val hl rfl trivial (r_not hl rfl) ?_)
  clear hl a; intro a hl
  refine w_nil ?_
  have hl2 := hl.add (t := 0) (hl.add (t := 1) (hl.add (t := 6) (hl.nil) rfl) rfl) rfl; clear hl; have hl := hl2; clear hl2
  refine then_normal ?_
  refine c_cond hl rfl ?_ ?_
  · intro hc0
    try simp only [decide_eq_true_eq, decide_eq_false_iff_not, Bool.not_eq_true', Bool.not_eq_false', Bool.not_eq_true, Bool.not_eq_false, Bool.and_eq_true, Bool.or_eq_true, Bool.and_eq_false_iff, Bool.or_eq_false_iff, Bool.not_not, ne_eq, Int.not_lt, Int.not_le, Decidable.not_not, beq_iff_eq, bne_iff_ne] at hc0
    refine wp_skip ?_
    refine then_normal ?_
    refine wp_block ?_
    refine c_seq ?_
    refine c_region ?_
    refine wl (wl_val hl rfl trivial (r_move hl rfl) ?_)
    clear hl a; intro a hl
    refine wl (wl_val hl rfl trivial (r_move hl rfl) ?_)
    clear hl a; intro a hl
    refine wl (w_call hl hh rfl trivial rfl cal43 rfl (deliver_spec hI.1 bg tT tf (B + (tot g.bx - tot z.g.bx)) Q ⟨by omega, by omega⟩ (by omega) hQ0 hI.2.1.gi z.p hI.2.1.p) (by repeat (first | exact keeps_nil | apply keeps_cons (by repeat (first | exact find_head | apply find_tail | apply find_skip)) (by first  | rfl) | exact keeps_self | exact keeps_left | apply keeps_app | apply keeps_mv | apply keeps_skip)) (pt_call hh hpre (by repeat (first | exact keeps_nil | apply keeps_cons (by repeat (first | exact find_head | apply find_tail | apply find_skip)) (by first  | rfl) | exact keeps_self | exact keeps_left | apply keeps_app | apply keeps_mv | apply keeps_skip))) ?_)
    clear hl hh a w; intro vc Fc a w hR hl hh
    obtain ⟨rfl, M2, hF2, hS2, hG2, hbm2, hbt2⟩ := hR
    try simp only [List.cons_append, List.nil_append, List.append_assoc, List.append_nil] at hh
    subst hF2
    obtain ⟨d', hD', hm'⟩ := hI.2.1.next ⟨by omega, by omega⟩ hB0 (by simpa using hc0) htb.2 M2
    refine w_nil ?_
    have hl2 := hl.add (t := 0) (hl.add (t := 1) (hl.nil) rfl) rfl; clear hl; have hl := hl2; clear hl2
    refine then_normal ?_
    refine c_region ?_
    refine wl (wl_val hl rfl trivial (r_move hl rfl) ?_)
    clear hl a; intro a hl
    first | refine wl (wl_val hl rfl trivial (r_add hl rfl rfl (by simp only [Fits]; omega)) ?_) | refine wl (wl_val hl rfl trivial (r_addW hl rfl rfl) ?_)
    clear hl a; intro a hl
    refine wl (wl_val hl rfl trivial (r_assign hl rfl) ?_)
    clear hl a; intro a hl
    refine w_nil ?_
    have hl2 := hl.add (t := 0) (hl.add (t := 1) (hl.nil) rfl) rfl; clear hl; have hl := hl2; clear hl2
    refine blk_normal ?_
    refine then_normal ?_
    refine ⟨⟨(delG z.g z.p).1, M2, IntKind.i64.wrap (z.p + 1), d'⟩, (by simp only; exact hm'), ⟨hS2, hD', hbm2.trans hI.2.2.1, hbt2.trans hI.2.2.2⟩, hl.addE (t := 1) (hl.addE (t := 0) (hl.nil) rfl (by first | rfl | (congr 1; omega))) rfl (by first | rfl | (congr 1; omega)), hh.keep (by repeat (first | exact keeps_nil | apply keeps_cons (by repeat (first | exact find_head | apply find_tail | apply find_skip)) (by first  | rfl) | exact keeps_self | exact keeps_left | apply keeps_app | apply keeps_mv | apply keeps_skip))⟩
  · intro hc0
    try simp only [decide_eq_true_eq, decide_eq_false_iff_not, Bool.not_eq_true', Bool.not_eq_false', Bool.not_eq_true, Bool.not_eq_false, Bool.and_eq_true, Bool.or_eq_true, Bool.and_eq_false_iff, Bool.or_eq_false_iff, Bool.not_not, ne_eq, Int.not_lt, Int.not_le, Decidable.not_not, beq_iff_eq, bne_iff_ne] at hc0
    have hqt : quietB z.g.bx 16 = true := by simpa using hc0
    refine wp_exit ?_
    refine then_exit ?_
    refine then_exit ?_
    refine blk_exit ?_
    refine f_end0 (F' := (sysL bg z.M)) hl hh rfl (by repeat (first | exact keeps_nil | apply keeps_cons (by repeat (first | exact find_head | apply find_tail | apply find_skip)) (by first  | rfl) | exact keeps_self | exact keeps_left | apply keeps_app | apply keeps_mv | apply keeps_skip)) ?_
    exact ⟨rfl, z.g, z.M, rfl, hI.2.1.done hqt htb.2, hI.1, hI.2.2⟩
end Go.Proofs.Qxb6500911aDoor

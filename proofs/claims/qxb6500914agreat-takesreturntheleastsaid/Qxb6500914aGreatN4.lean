import Derived.Test.Qxb6500914aGreatN3
namespace Go.Proofs.Qxb6500914aGreat
open Go.Eng
set_option linter.unusedVariables false
set_option linter.unusedSimpArgs false

/-! ## the log is well formed -/
structure EvOk (pre : List Ev) (e : Ev) : Prop where
  t : e.t < 6
  ck : 0 ≤ e.ck ∧ e.ck ≤ 7
  cv : InR e.cv
  cp : InR e.cp
  cp0 : e.ck ≤ 3 → e.cp = 0
  ret : e.ret = true → ∀ k, inK k e.ck → hist k pre e.t ≠ []
def LogOk (log : List Ev) : Prop := ∀ pre e post, log = pre ++ e :: post → EvOk pre e
theorem LogOk.snoc {log : List Ev} {e : Ev} (h : LogOk log) (he : EvOk log e) : LogOk (log ++ [e]) := by
  intro pre e9 post eq
  rcases List.eq_nil_or_concat post with rfl | ⟨P, y, rfl⟩
  · have := List.append_inj' eq rfl
    have h2 := this.2
    injection h2 with a
    rw [← this.1, ← a]; exact he
  · have e2 : log ++ [e] = (pre ++ e9 :: P) ++ [y] := by rw [eq]; simp
    exact h pre e9 P (List.append_inj' e2 rfl).1
theorem LogOk.at {log : List Ev} {i : Nat} {e : Ev} (h : LogOk log) (he : log[i]? = some e) : EvOk (log.take i) e := by
  obtain ⟨hi, rfl⟩ := List.getElem?_eq_some_iff.1 he
  refine h (log.take i) log[i] (log.drop (i + 1)) ?_
  rw [List.getElem_cons_drop, List.take_append_drop]
def LO (W : WS) : Prop := LogOk W.log ∧ ∀ t, InR (W.cv t) ∧ InR (W.cp t)
theorem inR0 : InR 0 := by unfold InR; omega
theorem LO.inv {W : WS} (h : LO W) (t : Nat) (ht : t < 6) (kd u v : Int) (h0 : 0 ≤ kd) (h7 : kd ≤ 7) (hu : InR u) (hv : InR v) : LO (invokeW W t kd u v) := by
  have c1 : InR (cvOf kd u) := by unfold cvOf; split; exact hu; exact inR0
  have c2 : InR (cpOf kd v) := by unfold cpOf; split; exact hv; exact inR0
  refine ⟨LogOk.snoc h.1 ⟨ht, ⟨h0, h7⟩, c1, c2, fun q => by show cpOf kd v = 0; unfold cpOf; exact if_neg (by have q' : kd ≤ 3 := q; omega), fun q => by cases q⟩, fun s => ?_⟩
  show InR (updF W.cv t (cvOf kd u) s) ∧ InR (updF W.cp t (cpOf kd v) s)
  unfold updF
  split
  · exact ⟨c1, c2⟩
  · exact h.2 s
theorem LinI.busy {W : WS} {t : Nat} {k : Bool} {p : PG} (h : LinI k W) (hr : W.run t = some (k, p)) (ht : t < 6) : hist k W.log t ≠ [] := by
  obtain ⟨L, A, hI, _⟩ := h
  have hth := hI.th t ht
  have hp : phW k W t = (if p.pc = 8 then Ph.fin ⟨p.ra, p.rv, p.rp⟩ else .work (W.ck t) (W.cv t) (W.cp t)) := by unfold phW; rw [hr]; unfold phO; simp
  rw [hp] at hth
  by_cases c : p.pc = 8
  · rw [if_pos c] at hth
    obtain ⟨_, ⟨B, r, hB, _⟩, _⟩ := hth
    rw [hB]; simp
  · rw [if_neg c] at hth
    obtain ⟨_, B, r, hB, _⟩ := hth
    rw [hB]; simp
theorem LO.step {W : WS} (h : LO W) (hw : WI W) (hz : ZI W) (hc : CF W) (hl : ∀ k, LinI k W) (t : Nat) (hb : (W.run t).isSome = true) : LO (stepW W t) := by
  obtain ⟨⟨k, p⟩, hr⟩ := Option.isSome_iff_exists.1 hb
  have ht : t < 6 := (hw.pi t _ hr).ht
  have hck : (stepW W t).ck = W.ck ∧ (stepW W t).cv = W.cv ∧ (stepW W t).cp = W.cp := by
    unfold stepW; rw [hr]; dsimp only; split <;> exact ⟨rfl, rfl, rfl⟩
  obtain ⟨c1, c2, c3, c4, c5⟩ := hc t k p hr
  refine ⟨?_, fun s => by rw [hck.2.1, hck.2.2]; exact h.2 s⟩
  rw [stepW_log hr]
  split
  · refine h.1.snoc ⟨ht, c5, (h.2 t).1, (h.2 t).2, fun q => ?_, fun _ k' hk' => ?_⟩
    · have q' : W.ck t ≤ 3 := q
      have hk : k = false := by rw [c1]; exact decide_eq_false (by omega)
      subst hk
      show W.cp t = 0
      rw [← c4]; exact (hz t p hr).cp
    have e : k' = k := ((inK_iff c5).1 hk').symm.trans c1.symm
    subst e
    exact (hl k').busy hr ht
  · exact h.1
def Good6 (W : WS) : Prop := Good5 W ∧ (LW W ≤ 1000100 → LO W)
theorem keepG6 : Keep Good6 := ⟨fun _ h => h.1.1.1,
  fun W t h hb => ⟨keepG5.step W t h.1 hb, fun hl => by
    rw [LW_step W t h.1.1.1] at hl
    exact (h.2 hl).step h.1.1.1 (h.1.1.2 hl).2 (h.1.2 hl).1 (h.1.2 hl).2 t hb⟩,
  fun W t kd u v h hn ht h0 h7 hu hv => ⟨keepG5.inv W t kd u v h.1 hn ht h0 h7 hu hv, fun hl => by
    rw [LW_inv W t kd u v ht hn] at hl
    exact (h.2 (by omega)).inv t ht kd u v h0 h7 hu hv⟩⟩
theorem start_G6 {m : MS} (h : StartM m) : Good6 (W0 m) := ⟨start_G5 h, fun _ => ⟨fun pre e post eq => absurd eq (by show ¬ [] = _; simp), fun t => ⟨inR0, inR0⟩⟩⟩
/-! ## the records of a history -/
structure RecOk (k : Bool) (n : Nat) (r : Rec) : Prop where
  ck : inK k r.ck
  cv : InR r.cv
  cp : InR r.cp
  iv : r.iv < n
  fn : r.fn = never ∨ r.fn < n
  rt : r.ret = true → r.fn < n
  cp0 : k = false → r.cp = 0
theorem RecOk.mono {k : Bool} {n m : Nat} {r : Rec} (h : RecOk k n r) (hn : n ≤ m) : RecOk k m r := ⟨h.ck, h.cv, h.cp, by have := h.iv; omega, h.fn.imp id (fun q => by omega), fun q => by have := h.rt q; omega, h.cp0⟩
structure HOk (k : Bool) (n : Nat) (H : Nat → List Rec) : Prop where
  rc : ∀ t r, r ∈ H t → RecOk k n r
  len : ((List.range 6).map (fun t => (H t).length)).sum ≤ n
theorem HOk.each {k : Bool} {n : Nat} {H : Nat → List Rec} (h : HOk k n H) {t : Nat} (ht : t < 6) : (H t).length ≤ n := by
  have := h.len
  simp [List.range_succ] at this
  rcases (show t = 0 ∨ t = 1 ∨ t = 2 ∨ t = 3 ∨ t = 4 ∨ t = 5 by omega) with e | e | e | e | e | e <;> subst e <;> omega
theorem sum_one (f : Nat → Nat) (t x : Nat) (ht : t < 6) : ((List.range 6).map (fun s => if s = t then x else f s)).sum + f t = ((List.range 6).map f).sum + x := by
  have := sum_upd (fun s => if s = t then x else f s) f t (fun s hs => if_neg hs) (List.range 6) List.nodup_range (List.mem_range.2 ht)
  rw [if_pos rfl] at this
  exact this
theorem hist_ok (k : Bool) : ∀ log : List Ev, LogOk log → HOk k log.length (hist k log) := by
  have main : ∀ (n : Nat) (log : List Ev), log.length = n → LogOk log → HOk k log.length (hist k log) := by
   intro n
   induction n with
   | zero =>
    intro log hz _
    rw [List.eq_nil_of_length_eq_zero hz]
    exact ⟨fun t r hr => absurd hr (by show ¬ r ∈ []; simp), by simp only [hist, List.zipIdx_nil, List.foldl_nil, List.length_nil]; decide⟩
   | succ n ih =>
    intro log9 hz h
    obtain ⟨log, e, rfl⟩ : ∃ B x, log9 = B ++ [x] := ⟨_, _, (List.dropLast_concat_getLast (by intro q; rw [q] at hz; cases hz)).symm⟩
    rw [List.length_append, List.length_singleton] at hz
    have h1 : LogOk log := fun pre e9 post eq => h pre e9 (post ++ [e]) (by rw [eq]; simp)
    have he := h log e [] rfl
    have ho := ih log (by omega) h1
    have h6 := he.t
    rw [hist_snoc, List.length_append, List.length_singleton]
    unfold hStep
    by_cases hk : inK k e.ck
    · rw [if_pos hk]
      by_cases hr : e.ret = true
      · rw [if_pos hr]
        obtain ⟨B, x, hB⟩ : ∃ B x, hist k log e.t = B ++ [x] := by
          have := he.ret hr k hk
          exact ⟨_, _, (List.dropLast_concat_getLast this).symm⟩
        rw [hB, endL_snoc]
        have hx := ho.rc e.t x (by rw [hB]; simp)
        refine ⟨fun t r hm => ?_, ?_⟩
        · unfold updF at hm
          split at hm
          · rcases List.mem_append.1 hm with q | q
            · exact (ho.rc e.t r (by rw [hB]; exact List.mem_append_left _ q)).mono (by omega)
            · rw [List.mem_singleton] at q
              subst q
              exact ⟨hx.ck, hx.cv, hx.cp, by show x.iv < _; have := hx.iv; omega, .inr (by show log.length < _; omega), fun _ => by show log.length < _; omega, hx.cp0⟩
          · exact (ho.rc t r hm).mono (by omega)
        · have e1 : (fun t => (updF (hist k log) e.t (B ++ [{ x with ra := e.ra, rv := e.rv, rp := e.rp, ret := true, fn := log.length }]) t).length) = fun t => (hist k log t).length := funext fun t => by
            unfold updF
            split
            · rename_i q; rw [q, hB]; simp
            · rfl
          rw [e1]
          have := ho.len
          omega
      · rw [if_neg hr]
        refine ⟨fun t r hm => ?_, ?_⟩
        · unfold updF at hm
          split at hm
          · rcases List.mem_append.1 hm with q | q
            · exact (ho.rc e.t r q).mono (by omega)
            · rw [List.mem_singleton] at q
              subst q
              exact ⟨hk, he.cv, he.cp, by show log.length < _; omega, .inl rfl, fun q => (by cases q), fun q => he.cp0 (by subst q; exact hk.2)⟩
          · exact (ho.rc t r hm).mono (by omega)
        · have e1 : (fun t => (updF (hist k log) e.t (hist k log e.t ++ [⟨e.ck, e.cv, e.cp, 0, 0, 0, false, log.length, never⟩]) t).length) = fun t => if t = e.t then (hist k log e.t).length + 1 else (hist k log t).length := funext fun t => by
            unfold updF
            split
            · simp
            · rfl
          rw [e1]
          have h2 := sum_one (fun t => (hist k log t).length) e.t ((hist k log e.t).length + 1) h6
          have := ho.len
          omega
    · rw [if_neg hk]
      exact ⟨fun t r hm => (ho.rc t r hm).mono (by omega), by have := ho.len; omega⟩
  exact fun log h => main log.length log rfl h
theorem found {W : WS} (h : Good6 W) (hL : LW W ≤ 1000100) (k : Bool) : Cmp k (hist k W.log) (fun _ => 0) [] := by
  obtain ⟨L, A, hI, _⟩ := (h.1.2 hL).2 k
  have ho := hist_ok k W.log (h.2 hL).1
  have hl : W.log.length ≤ 1000100 := by unfold LW at hL; omega
  exact hI.found fun t r hr => by have := (ho.rc t r hr).iv; unfold never; omega
/-! ## the responses are in range -/
structure RsOk (r : Rs) : Prop where
  a : 0 ≤ r.a ∧ r.a < 256
  v : InR r.v
  p : InR r.p
theorem inRd {A : List (Int × Int)} (h : ∀ x ∈ A, InR x.1 ∧ InR x.2) (i : Nat) : InR (A.getD i (0, 0)).1 ∧ InR (A.getD i (0, 0)).2 := by
  rw [List.getD_eq_getElem?_getD]
  cases hq : A[i]? with
  | none => exact ⟨inR0, inR0⟩
  | some x => exact h x (List.mem_of_getElem? hq)
theorem rs_lit (a : Int) (h : 0 ≤ a ∧ a < 256) : RsOk ⟨a, 0, 0⟩ := ⟨h, inR0, inR0⟩
theorem st_rng {k : Bool} {A : List (Int × Int)} {ck cv cp : Int} (h : ∀ x ∈ A, InR x.1 ∧ InR x.2) (hv : InR cv) (hp : InR cp) : (∀ x ∈ (stA k A ck cv cp).1, InR x.1 ∧ InR x.2) ∧ RsOk (stA k A ck cv cp).2 := by
  unfold stA
  by_cases hk : k = false
  · rw [if_pos hk]
    unfold apL
    by_cases c : ck = 0 ∨ ck = 1 ∨ ck = 4
    · rw [if_pos c]
      by_cases c8 : A.length = 8
      · rw [if_pos c8]; exact ⟨h, rs_lit 3 (by omega)⟩
      · rw [if_neg c8]
        refine ⟨fun x hx => ?_, rs_lit 0 (by omega)⟩
        have hx' : x ∈ (if ck = 1 then A ++ [(cp, cv)] else if ck = 4 then insL (cp, cv) A else (cp, cv) :: A) := hx
        have hm : x = (cp, cv) ∨ x ∈ A := by
          split at hx'
          · rcases List.mem_append.1 hx' with q | q
            · exact .inr q
            · exact .inl (List.mem_singleton.1 q)
          · split at hx'
            · unfold insL at hx'
              rcases List.mem_append.1 hx' with q | q
              · exact .inr ((List.takeWhile_sublist _).subset q)
              · rcases List.mem_cons.1 q with q | q
                · exact .inl q
                · exact .inr ((List.dropWhile_sublist _).subset q)
            · rcases List.mem_cons.1 hx' with q | q
              · exact .inl q
              · exact .inr q
        rcases hm with q | q
        · rw [q]; exact ⟨hp, hv⟩
        · exact h x q
    · rw [if_neg c]
      have ho : ∀ x, (if ck = 3 then A.getLast? else A.head?) = some x → x ∈ A := fun x hx => by
        split at hx
        · exact List.mem_of_getLast? hx
        · exact List.mem_of_head? hx
      generalize (if ck = 3 then A.getLast? else A.head?) = o at ho
      cases o with
      | none => exact ⟨h, rs_lit 2 (by omega)⟩
      | some x =>
        have hx := h x (ho x rfl)
        simp only
        by_cases c6 : ck = 6
        · rw [if_pos c6]; exact ⟨h, ⟨by show 0 ≤ (1 : Int) ∧ (1 : Int) < 256; omega, hx.2, hx.1⟩⟩
        · rw [if_neg c6]
          by_cases c7 : ck = 7 ∧ cp < x.1
          · rw [if_pos c7]; exact ⟨h, ⟨by show 0 ≤ (4 : Int) ∧ (4 : Int) < 256; omega, inR0, hx.1⟩⟩
          · rw [if_neg c7]
            refine ⟨fun y hy => h y ?_, ⟨by show 0 ≤ (1 : Int) ∧ (1 : Int) < 256; omega, hx.2, hx.1⟩⟩
            have hy' : y ∈ (if ck = 3 then A.dropLast else A.tail) := hy
            split at hy'
            · exact List.dropLast_subset _ hy'
            · exact List.mem_of_mem_tail hy'
  · rw [if_neg hk]
    by_cases c4 : ck = 4
    · rw [if_pos c4]
      by_cases c8 : A.length = 8
      · rw [if_pos c8]; exact ⟨h, rs_lit 3 (by omega)⟩
      · rw [if_neg c8]
        refine ⟨fun x hx => ?_, rs_lit 0 (by omega)⟩
        rcases List.mem_append.1 hx with q | q
        · exact h x q
        · rw [List.mem_singleton] at q; rw [q]; exact ⟨hp, hv⟩
    · rw [if_neg c4]
      by_cases cn : A = []
      · rw [if_pos cn]; exact ⟨h, rs_lit 2 (by omega)⟩
      · rw [if_neg cn]
        have hx := inRd h (lsN A)
        split
        · exact ⟨h, ⟨by show 0 ≤ (4 : Int) ∧ (4 : Int) < 256; omega, inR0, hx.1⟩⟩
        · split
          · exact ⟨h, ⟨by show 0 ≤ (1 : Int) ∧ (1 : Int) < 256; omega, hx.2, hx.1⟩⟩
          · exact ⟨fun y hy => h y ((List.eraseIdx_sublist _ _).subset hy), ⟨by show 0 ≤ (1 : Int) ∧ (1 : Int) < 256; omega, hx.2, hx.1⟩⟩
theorem runs_rng {k : Bool} {B : List (Int × Int)} : ∀ (L : List Lin) (A : List (Int × Int)), runs k A L B → (∀ x ∈ A, InR x.1 ∧ InR x.2) → (∀ l ∈ L, InR l.cv ∧ InR l.cp) → ∀ l ∈ L, RsOk l.rs
  | [], A, _, _, _, l, hl => absurd hl (by simp)
  | m :: L, A, h, hA, hL, l, hl => by
    have hm := hL m (List.mem_cons_self ..)
    obtain ⟨r1, r2⟩ := st_rng (k := k) (ck := m.ck) hA hm.1 hm.2
    rcases List.mem_cons.1 hl with q | q
    · rw [q, ← h.1]; exact r2
    · exact runs_rng L _ h.2 r1 (fun x hx => hL x (List.mem_cons_of_mem _ hx)) l q
theorem find_nth (t : Nat) : ∀ (L : List Lin) (j : Nat), j < cnt t L → ∃ L1 l L2, L = L1 ++ l :: L2 ∧ l.t = t ∧ cnt t L1 = j
  | [], j, h => absurd h (by simp [cnt])
  | x :: L, j, h => by
    by_cases c : x.t = t
    · cases j with
      | zero => exact ⟨[], x, L, rfl, c, rfl⟩
      | succ j =>
        obtain ⟨L1, l, L2, e, h1, h2⟩ := find_nth t L j (by simp only [cnt] at h; rw [if_pos c] at h; omega)
        exact ⟨x :: L1, l, L2, by rw [e]; rfl, h1, by simp only [cnt]; rw [if_pos c, h2]; omega⟩
    · obtain ⟨L1, l, L2, e, h1, h2⟩ := find_nth t L j (by simp only [cnt] at h; rw [if_neg c] at h; omega)
      exact ⟨x :: L1, l, L2, by rw [e]; rfl, h1, by simp only [cnt]; rw [if_neg c, h2]; omega⟩
def RspOk (r : Rec) : Prop := r.ret = true → RsOk ⟨r.ra, r.rv, r.rp⟩
theorem LI.resp {k : Bool} {H : Nat → List Rec} {L : List Lin} {A : List (Int × Int)} {n : Nat} {ph : Nat → Ph} (h : LI k H L A n ph) (ho : HOk k n H) {t j : Nat} {r : Rec} (ht : t < 6) (hr : (H t)[j]? = some r) : RspOk r := by
  intro hret
  have hrc := ho.rc t r (List.mem_of_getElem? hr)
  have hj : j < cnt t L := by
    refine Nat.lt_of_not_le fun q => ?_
    have h1 := h.pend ht q hr
    have h2 := hrc.rt hret
    have h3 := h.never
    omega
  obtain ⟨L1, l, L2, e, h1, h2⟩ := find_nth t L j hj
  obtain ⟨r9, hr9, hm⟩ := h.mt L1 l L2 e
  rw [h1, h2, hr] at hr9
  injection hr9 with hr9
  subst hr9
  rw [← hm.rs hret]
  refine runs_rng L [] h.run (fun x hx => by cases hx) (fun m hm9 => ?_) l (by rw [e]; simp)
  obtain ⟨M1, M2, eM⟩ := List.append_of_mem hm9
  obtain ⟨r8, hr8, hm8⟩ := h.mt M1 m M2 eM
  have hrc8 := ho.rc m.t r8 (List.mem_of_getElem? hr8)
  rw [← hm8.cv, ← hm8.cp]
  exact ⟨hrc8.cv, hrc8.cp⟩
structure HGood (k : Bool) (H : Nat → List Rec) : Prop where
  ok : ∃ n, n ≤ 1000100 ∧ HOk k n H
  rsp : ∀ t r, t < 6 → r ∈ H t → RspOk r
theorem good_hist {W : WS} (h : Good6 W) (hL : LW W ≤ 1000100) (k : Bool) : HGood k (hist k W.log) := by
  obtain ⟨L, A, hI, _⟩ := (h.1.2 hL).2 k
  have ho := hist_ok k W.log (h.2 hL).1
  have hl : W.log.length ≤ 1000100 := by unfold LW at hL; omega
  refine ⟨⟨_, hl, ho⟩, fun t r ht hr => ?_⟩
  obtain ⟨j, hj, rfl⟩ := List.getElem_of_mem hr
  exact hI.resp ho ht (List.getElem?_eq_getElem hj)

end Go.Proofs.Qxb6500914aGreat

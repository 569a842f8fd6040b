import Derived.Test.Qxb6500914aGreatD0
namespace Go.Proofs.Qxb6500914aGreat
open Go.Eng
set_option linter.unusedVariables false
set_option linter.unusedSimpArgs false

attribute [local irreducible] encM encP

theorem sp_frame {P : Program} {f : FuncId} {args : Array Value} {A G F : List (Nat × Obj)} {R : Value → List (Nat × Obj) → Prop} (h : Sp P f args A R) (p : F.Perm (A ++ G)) : Sp P f args F (fun v F' => ∃ F2, R v F2 ∧ F' = F2 ++ G) := by
  intro w _ hm hn
  have hh := (Has.start hm hn).perm p
  refine (h w trivial hh.left.1 hh.left.2).mono fun e w' he => ?_
  cases e with
  | returned v =>
    obtain ⟨F', hR, hhas⟩ := he
    exact ⟨F' ++ G, ⟨F', hR, rfl⟩, hh.call (fun b hb => hb) hhas⟩
  | panicked c => exact he.elim
  | outgrown => exact he.elim
theorem sp_post {P : Program} {f : FuncId} {args : Array Value} {F : List (Nat × Obj)} {R R' : Value → List (Nat × Obj) → Prop} (h : Sp P f args F R) (hr : ∀ v F', R v F' → ∃ F2 G, R' v F2 ∧ F'.Perm (F2 ++ G)) : Sp P f args F R' := by
  intro w hp hm hn
  refine (h w hp hm hn).mono fun e w' he => ?_
  cases e with
  | returned v =>
    obtain ⟨F', hR, hhas⟩ := he
    obtain ⟨F2, G, h2, hpm⟩ := hr v F' hR
    exact ⟨F2, h2, hhas.keep ⟨hpm⟩⟩
  | panicked c => exact he.elim
  | outgrown => exact he.elim
structure Ev where
  t : Nat
  ret : Bool
  ck : Int
  cv : Int
  cp : Int
  ra : Int
  rv : Int
  rp : Int
def evL (e : Ev) : List Value := [.int .i64 e.t, .bool e.ret, .int .u8 e.ck, .int .u64 e.cv, .int .u64 e.cp, .int .u8 e.ra, .int .u64 e.rv, .int .u64 e.rp]
/-- the world: the memory, the threads, the log -/
structure WS where
  m : MS
  run : Nat → Option (Bool × PG)
  ck : Nat → Int
  cv : Nat → Int
  cp : Nat → Int
  log : List Ev
  steps : Int
def rV (q : Nat → Nat) (run : Nat → Option (Bool × PG)) (t : Nat) : Value := match run t with
  | none => .nilIface
  | some _ => .iface 169 (.pointer (some ⟨q t, 0, none⟩))
theorem rV_ifc (q : Nat → Nat) (run : Nat → Option (Bool × PG)) (t : Nat) : IfcV (rV q run t) := by
  unfold rV; split
  · exact .inl rfl
  · exact .inr ⟨_, _, rfl⟩
theorem rV_is (q : Nat → Nat) (run : Nat → Option (Bool × PG)) (t : Nat) : isIfc (rV q run t) = (run t).isSome := by
  unfold rV; cases run t <;> rfl
theorem rV_none (q : Nat → Nat) (run : Nat → Option (Bool × PG)) (t : Nat) : updF (rV q run) t .nilIface = rV q (updF run t none) := by
  funext s; unfold updF rV; dsimp only
  by_cases e : s = t
  · rw [if_pos e, if_pos e]
  · rw [if_neg e, if_neg e]
theorem rV_same (q : Nat → Nat) (run : Nat → Option (Bool × PG)) (t : Nat) (x y : Bool × PG) (h : run t = some x) : rV q run = rV q (updF run t (some y)) := by
  funext s; unfold updF rV; dsimp only
  by_cases e : s = t
  · subst e; rw [if_pos rfl, h]
  · rw [if_neg e]
theorem rV_some (q : Nat → Nat) (run : Nat → Option (Bool × PG)) (t qb : Nat) (x : Bool × PG) : updF (rV q run) t (.iface 169 (.pointer (some ⟨qb, 0, none⟩))) = rV (updF q t qb) (updF run t (some x)) := by
  funext s; unfold updF rV; dsimp only
  by_cases e : s = t
  · rw [if_pos e, if_pos e, if_pos e]
  · rw [if_neg e, if_neg e, if_neg e]
def KOf (b : Nat) (q : Nat → Nat) (lv : Value) (W : WS) : KS := ⟨.pointer (some ⟨b, 0, none⟩), rV q W.run, W.ck, W.cv, W.cp, lv, W.steps⟩
def pB (q : Nat → Nat) (run : Nat → Option (Bool × PG)) (t : Nat) : List (Nat × Obj) := match run t with
  | none => []
  | some x => [(q t, C (arrL 37 (encP x.2)) 177)]
def progs (q : Nat → Nat) (run : Nat → Option (Bool × PG)) : List (Nat × Obj) := (List.range 6).flatMap (pB q run)
def but (q : Nat → Nat) (run : Nat → Option (Bool × PG)) (t : Nat) : List (Nat × Obj) := (List.range 6).flatMap (fun s => if s = t then [] else pB q run s)
theorem flat_split {α : Type} (f : Nat → List α) (t : Nat) : ∀ l : List Nat, l.Nodup → t ∈ l → (l.flatMap f).Perm (f t ++ l.flatMap (fun s => if s = t then [] else f s))
  | [], _, h => absurd h (by simp)
  | x :: l, hn, h => by
    rw [List.flatMap_cons, List.flatMap_cons]
    rw [List.nodup_cons] at hn
    by_cases e : x = t
    · subst e
      rw [if_pos rfl, List.nil_append]
      have : l.flatMap (fun s => if s = x then [] else f s) = l.flatMap f := by
        rw [List.flatMap_def, List.flatMap_def]
        congr 1
        refine List.map_congr_left fun s hs => ?_
        rw [if_neg (fun (e : s = x) => hn.1 (e ▸ hs))]
      rw [this]
    · rw [if_neg e]
      have ih := flat_split f t l hn.2 (by rcases List.mem_cons.1 h with q | q; exact absurd q.symm e; exact q)
      refine (List.Perm.append_left _ ih).trans ?_
      rw [← List.append_assoc, ← List.append_assoc]
      exact List.Perm.append_right _ List.perm_append_comm
theorem progs_perm (q : Nat → Nat) (run : Nat → Option (Bool × PG)) (t : Nat) (h : t < 6) : (progs q run).Perm (pB q run t ++ but q run t) :=
  flat_split _ t _ List.nodup_range (List.mem_range.2 h)
theorem but_upd (q : Nat → Nat) (run : Nat → Option (Bool × PG)) (t x : Nat) (y : Option (Bool × PG)) : but (updF q t x) (updF run t y) t = but q run t := by
  unfold but
  congr 1
  funext s
  by_cases e : s = t
  · rw [if_pos e, if_pos e]
  · rw [if_neg e, if_neg e]
    unfold pB updF; rw [if_neg e, if_neg e]
theorem but_upd1 (q : Nat → Nat) (run : Nat → Option (Bool × PG)) (t : Nat) (y : Option (Bool × PG)) : but q (updF run t y) t = but q run t := by
  unfold but
  congr 1
  funext s
  by_cases e : s = t
  · rw [if_pos e, if_pos e]
  · rw [if_neg e, if_neg e]
    unfold pB updF; rw [if_neg e]
theorem pB_some (q : Nat → Nat) (run : Nat → Option (Bool × PG)) (t : Nat) (x : Bool × PG) (h : run t = some x) : pB q run t = [(q t, C (arrL 37 (encP x.2)) 177)] := by unfold pB; rw [h]
theorem pB_none (q : Nat → Nat) (run : Nat → Option (Bool × PG)) (t : Nat) (h : run t = none) : pB q run t = [] := by unfold pB; rw [h]
/-- the world's blocks; 'ey': those of an onlooker -/
def Wd (b kb : Nat) (W : WS) (ey F : List (Nat × Obj)) : Prop :=
  ∃ q lv E, Row lv W.log.length (W.log.flatMap evL) 8 103 E ∧ F = (kb, C (arrL 27 (encK (KOf b q lv W))) 64) :: (b, C (arrL 16391 (encM W.m)) 116) :: (E ++ (progs q W.run ++ ey))
def stepW (W : WS) (t : Nat) : WS := match W.run t with
  | none => W
  | some x => if (stepF x.1 W.m x.2).ret then { W with m := (stepF x.1 W.m x.2).m, run := updF W.run t none, log := W.log ++ [⟨t, true, W.ck t, W.cv t, W.cp t, (stepF x.1 W.m x.2).p.ra, (stepF x.1 W.m x.2).p.rv, (stepF x.1 W.m x.2).p.rp⟩], steps := IntKind.i64.wrap (W.steps + 1) }
    else { W with m := (stepF x.1 W.m x.2).m, run := updF W.run t (some (x.1, (stepF x.1 W.m x.2).p)), steps := IntKind.i64.wrap (W.steps + 1) }
structure WI (W : WS) : Prop where
  pi : ∀ t x, W.run t = some x → PI x.1 t x.2
  mi : MI W.m
theorem mstepW_spec (b kb t : Nat) (W : WS) (ey F : List (Nat × Obj)) (h : Wd b kb W ey F) (hI : WI W) (hL : W.log.length ≤ 1000000) : Sp Tryz.prog 32 #[.pointer (some ⟨kb, 0, none⟩), .int .i64 t] F (fun v F' => v = .bool (W.run t).isSome ∧ Wd b kb (stepW W t) ey F') := by
  obtain ⟨q, lv, E, hrow, rfl⟩ := h
  cases hr : W.run t with
  | none =>
    have h1 := mstep_no kb (KOf b q lv W) (fun i _ => rV_ifc q W.run i) t (.inr (by show isIfc (rV q W.run t) = false; rw [rV_is, hr]; rfl))
    refine sp_post (sp_frame (G := (b, C (arrL 16391 (encM W.m)) 116) :: (E ++ (progs q W.run ++ ey))) h1 (List.Perm.refl _)) ?_
    rintro v F' ⟨F2, ⟨rfl, rfl⟩, rfl⟩
    refine ⟨_, [], ⟨rfl, q, lv, E, ?_, rfl⟩, by simp [stepW, hr]⟩
    simpa [stepW, hr] using hrow
  | some x =>
    obtain ⟨k, p⟩ := x
    have hP := hI.pi t _ hr
    have ht : t < 6 := hP.ht
    have hrun : (KOf b q lv W).run t = .iface 169 (.pointer (some ⟨q t, 0, none⟩)) := by show rV q W.run t = _; unfold rV; rw [hr]
    have hpp : (progs q W.run).Perm ((q t, C (arrL 37 (encP p)) 177) :: but q W.run t) := by
      have := progs_perm q W.run t ht
      rw [pB_some q W.run t _ hr] at this; exact this
    by_cases hret : (stepF k W.m p).ret = true
    · have h1 := mstep_end kb (q t) b (KOf b q lv W) (fun i _ => rV_ifc q W.run i) rfl t ht hrun k W.m p hP hI.mi hret _ _ E hrow hL
      refine sp_post (sp_frame (G := but q W.run t ++ ey) h1 ?_) ?_
      · refine List.Perm.cons _ ?_
        refine ((List.Perm.append_left E (List.Perm.append_right ey hpp)).cons _).trans ?_
        show ((b, C (arrL 16391 (encM W.m)) 116) :: (E ++ ((q t, C (arrL 37 (encP p)) 177) :: (but q W.run t ++ ey)))).Perm ((q t, C (arrL 37 (encP p)) 177) :: (b, C (arrL 16391 (encM W.m)) 116) :: (E ++ (but q W.run t ++ ey)))
        exact (List.Perm.cons _ List.perm_middle).trans (List.Perm.swap _ _ _)
      · rintro v F' ⟨F2, ⟨rfl, rv2, E2, hrow2, rfl⟩, rfl⟩
        have hs : stepW W t = { W with m := (stepF k W.m p).m, run := updF W.run t none, log := W.log ++ [⟨t, true, W.ck t, W.cv t, W.cp t, (stepF k W.m p).p.ra, (stepF k W.m p).p.rv, (stepF k W.m p).p.rp⟩], steps := IntKind.i64.wrap (W.steps + 1) } := by
          unfold stepW; rw [hr]; dsimp only; rw [if_pos hret]
        rw [hs]
        refine ⟨_, [], ⟨rfl, q, rv2, E2, ?_, rfl⟩, ?_⟩
        · rw [if_pos hret, if_pos hret, if_pos hret] at hrow2
          simpa [evL, KOf] using hrow2
        · have hk : ({ KOf b q lv W with steps := IntKind.i64.wrap ((KOf b q lv W).steps + 1), log := rv2, run := updF (KOf b q lv W).run t .nilIface } : KS) = KOf b q rv2 { W with m := (stepF k W.m p).m, run := updF W.run t none, log := W.log ++ [⟨t, true, W.ck t, W.cv t, W.cp t, (stepF k W.m p).p.ra, (stepF k W.m p).p.rv, (stepF k W.m p).p.rp⟩], steps := IntKind.i64.wrap (W.steps + 1) } := by
            unfold KOf; dsimp only; rw [rV_none]
          rw [hk, List.append_nil]
          have hpn := progs_perm q (updF W.run t none) t ht
          rw [pB_none _ _ _ (by unfold updF; rw [if_pos rfl]), but_upd1, List.nil_append] at hpn
          exact (((List.Perm.append_right ey hpn.symm).append_left E2).cons _).cons _
    · have hret' : (stepF k W.m p).ret = false := by simpa using hret
      have h1 := mstep_on kb (q t) b (KOf b q lv W) (fun i _ => rV_ifc q W.run i) rfl t ht hrun k W.m p hP hI.mi hret'
      refine sp_post (sp_frame (G := E ++ (but q W.run t ++ ey)) h1 ?_) ?_
      · refine List.Perm.cons _ ?_
        refine ((List.Perm.append_left E (List.Perm.append_right ey hpp)).cons _).trans ?_
        show ((b, C (arrL 16391 (encM W.m)) 116) :: (E ++ ((q t, C (arrL 37 (encP p)) 177) :: (but q W.run t ++ ey)))).Perm ((q t, C (arrL 37 (encP p)) 177) :: (b, C (arrL 16391 (encM W.m)) 116) :: (E ++ (but q W.run t ++ ey)))
        exact (List.Perm.cons _ List.perm_middle).trans (List.Perm.swap _ _ _)
      · rintro v F' ⟨F2, ⟨rfl, rfl⟩, rfl⟩
        have hs : stepW W t = { W with m := (stepF k W.m p).m, run := updF W.run t (some (k, (stepF k W.m p).p)), steps := IntKind.i64.wrap (W.steps + 1) } := by
          unfold stepW; rw [hr]; dsimp only; rw [if_neg hret]
        rw [hs]
        refine ⟨_, [], ⟨rfl, q, lv, E, hrow, rfl⟩, ?_⟩
        have hk : ({ KOf b q lv W with steps := IntKind.i64.wrap ((KOf b q lv W).steps + 1) } : KS) = KOf b q lv { W with m := (stepF k W.m p).m, run := updF W.run t (some (k, (stepF k W.m p).p)), steps := IntKind.i64.wrap (W.steps + 1) } := by
          unfold KOf; dsimp only; rw [← rV_same q W.run t _ _ hr]
        rw [hk, List.append_nil]
        have hpn := progs_perm q (updF W.run t (some (k, (stepF k W.m p).p))) t ht
        rw [pB_some _ _ _ (k, (stepF k W.m p).p) (by unfold updF; rw [if_pos rfl]), but_upd1] at hpn
        refine List.Perm.cons _ ?_
        show ((q t, C (arrL 37 (encP (stepF k W.m p).p)) 177) :: (b, C (arrL 16391 (encM (stepF k W.m p).m)) 116) :: (E ++ (but q W.run t ++ ey))).Perm _
        refine List.Perm.trans ?_ ((((List.Perm.append_right ey hpn.symm).append_left E)).cons _)
        show ((q t, C (arrL 37 (encP (stepF k W.m p).p)) 177) :: (b, C (arrL 16391 (encM (stepF k W.m p).m)) 116) :: (E ++ (but q W.run t ++ ey))).Perm ((b, C (arrL 16391 (encM (stepF k W.m p).m)) 116) :: (E ++ ((q t, C (arrL 37 (encP (stepF k W.m p).p)) 177) :: (but q W.run t ++ ey))))
        exact (List.Perm.swap _ _ _).trans (List.Perm.cons _ List.perm_middle.symm)
end Go.Proofs.Qxb6500914aGreat

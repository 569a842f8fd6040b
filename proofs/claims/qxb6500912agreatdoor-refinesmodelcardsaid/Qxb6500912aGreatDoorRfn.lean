import Derived.Test.Qxb6500912aGreatDoorEng
import Derived.RangeFuncRecord
import Derived.OrdersIn
import Derived.TacticsIn
set_option linter.unusedVariables false
set_option linter.unusedSimpArgs false
namespace Go.Eng
/-! ranging over a function: rounds, yield, marks -/
def Wr : Option Nat → Fence
  | none => Fence.wide
  | some l => Fence.wide.inRound l
theorem wr_fn (r : Option Nat) (f : FuncId) : (Wr r).fn f := by cases r <;> trivial
theorem wr_depth (r : Option Nat) : (Wr r).depth = none := by cases r <;> rfl
theorem wr_round (r : Option Nat) : (Wr r).round = r := by cases r <;> rfl
theorem wr_room (r : Option Nat) (n : Nat) : (Wr r).room n := fun d h => by rw [wr_depth] at h; cases h
theorem callsIn_wr {r : Option Nat} {n : Nat} {P : Program} {f : FuncId} {args : Array Value} {w : World} {R : Ending → World → Prop} : CallsIn (Wr r) n P f args w R ↔ Calls P f args w R := by
  cases r
  · exact callsIn_wide
  · exact callsIn_wide (n := n)
theorem rowsIn_wr {r : Option Nat} {n : Nat} {P : Program} {row : String} {args : Array Value} {w : World} {R : Value → World → Prop} (h : Rows P row args w R) : RowsIn (Wr r) n P row args w R := by
  intro c cs _
  obtain ⟨v, w', hR, hs⟩ := h c cs
  refine ⟨v, w', hR, ?_⟩
  cases r
  · exact stepsIn_wide.2 hs
  · exact stepsIn_wide.2 hs
section rfn
variable {P : Program} {n : Nat} {L : List (Nat × Value)} {a : Act} {w : World} {T : TypeId} {pos : String} {aft : Array Edge} {g : Option (Nat × Bool)} {dfs : List Deferred}
variable {ops : Array Oper} {Q : Exit → Act → World → Prop} {K : Act → World → Prop} {D : List Nat} {w0 : World} {F G : List (Nat × Obj)} {r : Option Nat} {o : Oper} {rest : List Oper}

theorem opIn {n' : Nat} (hd : ∀ c, o.op ≠ .defer c) (h : o.wp P a w K Q) : o.wpIn (Wr r) n' P a w K Q := by
  unfold Oper.wpIn
  refine ⟨fun f _ => wr_fn r f, ?_⟩
  rw [Oper.semAt_eq _ _ _ hd]
  unfold Oper.wp at h
  generalize (execOp a.eval o).run P w = res at *
  cases res with
  | ok x w' =>
    cases x <;> simp only [Oper.upon] at h <;> simp only [Oper.uponIn] <;>
      first
        | exact h
        | exact h.elim
        | exact ⟨(fun hc => by rw [wr_depth] at hc; cases hc), callsIn_wr.2 h⟩
        | exact ⟨(fun hc => by rw [wr_depth] at hc; cases hc), rowsIn_wr h⟩
  | halt x w' => cases x <;> simp only [Oper.upon] at h <;> simp only [Oper.uponIn] <;> first | exact h | exact h.elim
theorem opIf {n' : Nat} (hd : ∀ c, o.op ≠ .defer c) (hQ : ∀ a w, ¬ Q .outgrown a w) (h : OpW P ops Q o K a w) :
    if Region.wanted o (yielded ops a.tmps) then o.wpIn (Wr r) n' P a w K Q else (∀ f, o.about P w a.eval = some f → (Wr r).fn f) ∧ K (a.put o.dst undef) w := by
  unfold OpW at h
  split
  · rename_i hw
    rw [if_pos hw] at h
    rcases h with h | ⟨_, a', w', h⟩
    · exact opIn hd h
    · exact absurd h (hQ _ _)
  · rename_i hw
    rw [if_neg hw] at h
    exact ⟨fun f _ => wr_fn r f, h⟩
theorem wli {n' : Nat} (hd : ∀ c, o.op ≠ .defer c) (hQ : ∀ a w, ¬ Q .outgrown a w) (h : OpW P ops Q o (wpListIn (Wr r) n' P ops Q rest) a w) : wpListIn (Wr r) n' P ops Q (o :: rest) a w := opIf hd hQ h
theorem wi_nil {n' : Nat} (h : Q .normal a w) : wpListIn (Wr r) n' P ops Q [] a w := h
theorem i_region {n' : Nat} {id : Nat} {os : List Oper} (h : wpListIn (Wr r) n' P ⟨os⟩ Q os a w) : (Code.region id ⟨os⟩ false).wpIn (Wr r) n' P Q a w := wpIn_region_lit h
theorem i_seq {n' : Nat} {x y : Code} (h : x.wpIn (Wr r) n' P (Exit.then (y.wpIn (Wr r) n' P Q) Q) a w) : (Code.seq x y).wpIn (Wr r) n' P Q a w := wpIn_seq h
theorem i_block {n' : Nat} {id : Nat} {x : Code} (h : x.wpIn (Wr r) n' P (Exit.inBlock id Q) a w) : (Code.block id x).wpIn (Wr r) n' P Q a w := wpIn_block h
theorem i_skip {n' : Nat} (h : Q .normal a w) : Code.skip.wpIn (Wr r) n' P Q a w := wpIn_skip h
theorem i_exit {n' : Nat} {id : Nat} (h : Q (.exit id) a w) : (Code.exit id).wpIn (Wr r) n' P Q a w := wpIn_exit h
theorem i_ret {n' : Nat} (h : Q .ret a w) : Code.ret.wpIn (Wr r) n' P Q a w := wpIn_ret h
theorem i_condT {n' : Nat} {c : Operand} {x y : Code} (hl : SlD dfs n L a) (hc : val L c = some (.bool true)) (h : x.wpIn (Wr r) n' P Q a w) : (Code.cond c x y).wpIn (Wr r) n' P Q a w := wpIn_cond_true (hl.ev hc) h
theorem i_condF {n' : Nat} {c : Operand} {x y : Code} (hl : SlD dfs n L a) (hc : val L c = some (.bool false)) (h : y.wpIn (Wr r) n' P Q a w) : (Code.cond c x y).wpIn (Wr r) n' P Q a w := wpIn_cond_false (hl.ev hc) h
theorem i_cond {n' : Nat} {c : Operand} {x y : Code} {p : Bool} (hl : SlD dfs n L a) (hc : val L c = some (.bool p)) (h1 : p = true → x.wpIn (Wr r) n' P Q a w) (h2 : p = false → y.wpIn (Wr r) n' P Q a w) : (Code.cond c x y).wpIn (Wr r) n' P Q a w := by
  cases p
  · exact i_condF hl hc (h2 rfl)
  · exact i_condT hl hc (h1 rfl)
theorem i_loop {n' : Nat} {α : Type} {c : Code} (m : α → Nat) (I : α → Act → World → Prop) (x0 : α) (h0 : I x0 a w)
    (round : ∀ x a w, I x a w → c.wpIn (Wr none) n' P (Exit.then (fun a' w' => ∃ x', m x' < m x ∧ I x' a' w') Q) a w) : (Code.loop c).wpIn (Wr none) n' P Q a w :=
  wpIn_wide.2 (c_loop m I x0 h0 fun x a w h => wpIn_wide.1 (round x a w h))

def noDefer (ops : Array Oper) : Bool := ops.toList.all fun o => match o.op with | .defer _ => false | _ => true
theorem noDefer_spec (h : noDefer ops = true) {i : Nat} {o : Oper} (hi : ops[i]? = some o) : ∀ c, o.op ≠ .defer c := by
  intro c hc
  have hm : o ∈ ops.toList := by
    have := Array.mem_of_getElem? hi
    simpa using this
  have := List.all_eq_true.1 h o hm
  rw [hc] at this
  cases this
theorem wpOpIn_of {n' i : Nat} (hn : noDefer ops = true) (hQ : ∀ a w, ¬ Q .outgrown a w) (h : wpOp P ops Q i K a w) : wpOpIn (Wr r) n' P ops Q i K a w := by
  unfold wpOp at h
  unfold wpOpIn
  cases ho : ops[i]? with
  | none => simp only [ho] at h ⊢; exact h
  | some o =>
    simp only [ho] at h ⊢
    exact opIf (noDefer_spec hn ho) hQ h
theorem wpAnyIn_of {n' : Nat} {Lt : List Nat} {Cw : World → Prop} (hn : noDefer ops = true) (hQ : ∀ a w, ¬ Q .outgrown a w) : ∀ (fuel : Nat) (listed : Array Bool) (a : Act) (w : World), wpAnyR P ops Lt Cw Q fuel listed a w → wpAnyIn (Wr r) n' P .any ops Q fuel listed a w
  | 0, _, _, _, h => h
  | fuel + 1, _, _, _, h => ⟨h.1, fun i hi => wpOpIn_mono (fun a' w' h' => wpAnyIn_of hn hQ fuel _ a' w' h'.2) (wpOpIn_of hn hQ (h.2 i hi))⟩
theorem i_draw {n' : Nat} {id : Nat} (FC : List (Nat × Obj)) (Lt : List Nat) (hm : P.follows .mixedOrders = true) (hn : noDefer ops = true) (hQ : ∀ a w, ¬ Q .outgrown a w) (hh : Has D w0 F w)
    (h : ∀ w', Has D w0 F w' → wpAnyR P ops Lt (Mem FC) Q ops.size (Array.replicate ops.size false) a w') : (Code.region id ops true).wpIn (Wr r) n' P Q a w :=
  wpIn_region_any hm (wpAnyIn_of hn hQ _ _ _ _ (h _ (hh.draw _)))

/-- a call of yield -/
def SpY (P : Program) (l : Nat) (args : Array Value) (Pre : World → Prop) (F : List (Nat × Obj)) (R : Value → List (Nat × Obj) → Prop) : Prop :=
  ∀ w, Pre w → Mem F w → (F.map Prod.fst).Nodup → ∃ fn tmps assign body, (Instr.yield l args).run P w = .ok (.round l fn tmps assign body) w ∧
    RoundIn (Wr none) 0 P l fn tmps assign body w (Post (F.map Prod.fst) w R)
theorem run_callY {l : Nat} {xs : List Operand} {vs : List Value} {fo : Operand} {ts : Array TypeId} {dst : Option Nat} (hl : SlD dfs n L a) (hf : val L fo = some (.func (.yield l) #[] #[])) (hv : vals L xs = some vs) :
    (execOp a.eval ⟨dst, .call { callee := .value fo, args := ⟨xs⟩, argTypes := ts }, T, pos, aft, g⟩).run P w = (Instr.yield l ⟨vs⟩).run P w := by
  have he := hl.evs xs vs hv
  have hm : (Array.map a.eval ⟨xs⟩ : Array Value) = ⟨vs⟩ := by
    apply Array.ext'
    simp [he]
  simp [execOp, resolve, hl.ev hf, Deferred.ofValue, invoke, hm]
theorem wli_yield {n' d l : Nat} {xs : List Operand} {vs : List Value} {fo : Operand} {ts : Array TypeId} {Fn : List (Nat × Obj)} {R : Value → List (Nat × Obj) → Prop} {Pre : World → Prop}
    (hl : SlD dfs n L a) (hh : Has D w0 F w) (hd : Nat.blt d n = true) (hg : GuardOk ops L g) (hf : val L fo = some (.func (.yield l) #[] #[])) (hv : vals L xs = some vs)
    (hs : SpY P l ⟨vs⟩ Pre Fn R) (hp : Keeps F Fn G) (hpre : Pre w)
    (k : ∀ v F' a' w', R v F' → SlD dfs n ((d, v) :: L) a' → Has D w0 (F' ++ G) w' → wpListIn (Wr none) n' P ops Q rest a' w') :
    wpListIn (Wr none) n' P ops Q (⟨some d, .call { callee := .value fo, args := ⟨xs⟩, argTypes := ts }, T, pos, aft, g⟩ :: rest) a w := by
  have hh' := hh.perm hp.perm
  unfold wpListIn
  rw [if_pos (wanted_ok hl (o := ⟨some d, .call { callee := .value fo, args := ⟨xs⟩, argTypes := ts }, T, pos, aft, g⟩) hg)]
  unfold Oper.wpIn
  refine ⟨fun f _ => trivial, ?_⟩
  rw [Oper.semAt_eq _ _ _ (by intro c h; cases h), run_callY hl hf hv]
  obtain ⟨fn, tmps, assign, body, h1, h2⟩ := hs w hpre hh'.left.1 hh'.left.2
  rw [h1]
  refine ⟨(fun h => by cases h), ?_⟩
  have h3 : RoundIn (Wr none) (n' - 1) P l fn tmps assign body w (Post (Fn.map Prod.fst) w R) := ⟨trivial, fun c cs _ => h2.2 c cs (wr_room _ _)⟩
  refine h3.mono fun e w' he => ?_
  cases e with
  | returned v =>
    obtain ⟨F', hR, hhas⟩ := he
    exact k v F' _ w' hR (hl.put hd v) (hh'.call (fun b hb => hb) hhas)
  | panicked c => exact he.elim
  | outgrown => exact he.elim

/-- how a round's body is left -/
def RndQ (D : List Nat) (w0 : World) (l : Nat) (lp : Loop) (A : List (Nat × Obj) → Prop) (B : List (Nat × Obj) → Prop) : Exit → Act → World → Prop
  | .normal, _, w => ∃ F', A F' ∧ Has D w0 ((l, .loop { lp with state := .busy }) :: F') w
  | .ret, _, w => ∃ F', B F' ∧ Has D w0 ((l, .loop { lp with state := .busy }) :: F') w
  | _, _, _ => False
theorem has_put {b : Nat} {o o' : Obj} (hh : Has D w0 ((b, o) :: F) w) : Has D w0 ((b, o') :: F) (w.putObj b o') := hh.write find_head rfl rfl rfl rfl
/-- one round, out of the walks of its assignment and of its body -/
theorem spy_round {l p : Nat} {lp : Loop} {v : Value} {Fc : List (Nat × Obj)} {A B : List (Nat × Obj) → Prop} {Pre : World → Prop}
    (hs : lp.state = .ready) (hps : lp.params = #[p]) (hpn : Nat.blt p n = true) (hl : Sl n L ⟨lp.tmps, []⟩)
    (h : ∀ w0 w a, Pre w0 → Sl n ((p, v) :: L) a → Has (l :: Fc.map Prod.fst) w0 ((l, .loop lp) :: Fc) w →
      lp.assign.wpIn (Wr (some l)) 0 P (Exit.then (fun a1 w1 => ∃ F1, Has (l :: Fc.map Prod.fst) w0 ((l, .loop lp) :: F1) w1 ∧
        ∀ w2, Has (l :: Fc.map Prod.fst) w0 ((l, .loop { lp with state := .busy }) :: F1) w2 → lp.body.wpIn (Wr (some l)) 0 P (RndQ (l :: Fc.map Prod.fst) w0 l lp A B) a1 w2) (fun _ _ _ => False)) a w) :
    SpY P l #[v] Pre ((l, .loop lp) :: Fc) (fun u F' => (u = .bool true ∧ ∃ F1, A F1 ∧ F' = (l, .loop { lp with state := .ready, pending := none }) :: F1) ∨ (u = .bool false ∧ ∃ F1, B F1 ∧ F' = (l, .loop { lp with state := .done, pending := some .ret }) :: F1)) := by
  intro w hpre hm hn
  have hlm : w.heap[l]? = some (.loop lp) := hm _ _ (List.mem_cons_self ..)
  refine ⟨_, _, _, _, run_yield hlm (by rw [hps]; rfl), ?_⟩
  refine roundIn_of_wpIn (wr_fn _ _) ?_
  have hh : Has (l :: Fc.map Prod.fst) w ((l, .loop lp) :: Fc) w := Has.start hm hn
  have ht : (lp.params.zip #[v]).foldl (fun tmps (t, a) => tmps.setIfInBounds t a) lp.tmps = lp.tmps.setIfInBounds p v := by rw [hps]; simp
  rw [ht]
  have hl2 : Sl n ((p, v) :: L) ⟨lp.tmps.setIfInBounds p v, []⟩ := hl.put hpn v
  refine wpIn_mono (h w w _ hpre hl2 hh) fun e a1 w1 he => ?_
  cases e with
  | normal =>
    obtain ⟨F1, hh1, hb⟩ := he
    have hl1 : w1.heap[l]? = some (.loop lp) := hh1.mem _ _ (List.mem_cons_self ..)
    refine ⟨_, run_beginRound hl1 hs, ?_⟩
    refine wpIn_mono (hb _ (has_put hh1)) fun e a2 w2 hq => ?_
    cases e with
    | normal =>
      obtain ⟨F', hA, hh2⟩ := hq
      have hl2 := hh2.mem _ _ (List.mem_cons_self ..)
      exact ⟨_, _, run_endRound none hl2, _, .inl ⟨rfl, F', hA, rfl⟩, has_put hh2⟩
    | ret =>
      obtain ⟨F', hB, hh2⟩ := hq
      have hl2 := hh2.mem _ _ (List.mem_cons_self ..)
      exact ⟨_, _, run_endRound (some .ret) hl2, _, .inr ⟨rfl, F', hB, rfl⟩, has_put hh2⟩
    | exit id => exact hq.elim
    | goto t => exact hq.elim
    | panic c => exact hq.elim
    | outgrown => exact hq.elim
  | exit id => exact he.elim
  | goto t => exact he.elim
  | ret => exact he.elim
  | panic c => exact he.elim
  | outgrown => exact he.elim
def mark (dm : Nat) : Deferred := { target := .collected dm, args := #[] }
/-- the statement: 'hit': the iterator's contract, for whatever yield -/
theorem i_range {n' gf : Nat} {g : Operand} {ps : Array Tmp} {cap : Array Value} {assign body : Code}
    (hl : Sl n L a) (hh : Has D w0 F w) (hg : val L g = some (.func (.func gf) #[] cap)) (hc : callable P gf = true)
    (h : ∀ fn dm l w1, Has D w0 ((l, .loop { state := .ready, pending := none, fn := fn, tmps := a.tmps, params := ps, assign := assign, body := body, defers := dm }) :: (dm, .deferred (some [])) :: F) w1 →
      ∃ (Fn G : List (Nat × Obj)) (R : Value → List (Nat × Obj) → Prop) (Pre : World → Prop), SpK P gf (#[.func (.yield l) #[] #[]] ++ cap) Pre Fn R ∧ Pre w1 ∧
        Keeps ((l, .loop { state := .ready, pending := none, fn := fn, tmps := a.tmps, params := ps, assign := assign, body := body, defers := dm }) :: (dm, .deferred (some [])) :: F) Fn G ∧
        ∀ v F' w', R v F' → Has D w0 (F' ++ G) w' → ∃ (lp : Loop) (G1 : List (Nat × Obj)), Find (F' ++ G) l (.loop lp) G1 ∧ lp.state ≠ .busy ∧
          ((lp.pending = none ∧ ∀ a4 w4, SlD [mark dm] n L a4 → Has D w0 G1 w4 → Q .normal a4 w4) ∨ (lp.pending = some .ret ∧ ∀ a4 w4, SlD [mark dm] n L a4 → Has D w0 G1 w4 → Q .ret a4 w4))) :
    (Code.rangeFunc g ps assign body).wpIn (Wr none) n' P Q a w := by
  refine wpIn_rangeFunc fun fn _ => ?_
  have hh1 := (hh.alloc (.deferred (some []))).alloc (.loop { state := .ready, pending := none, fn := fn, tmps := a.tmps, params := ps, assign := assign, body := body, defers := w.heap.size })
  rw [show (w.alloc (Obj.deferred (some []))).heap.size = w.heap.size + 1 by simp] at hh1
  obtain ⟨Fn, G', R, Pre, hs, hp, hk, hR⟩ := h fn w.heap.size (w.heap.size + 1) _ hh1
  have hh2 := hh1.perm hk.perm
  have hent := run_enterLoop_outer (P := P) (w := w) fn a.tmps ps assign body
  generalize ((w.alloc (Obj.deferred (some []))).alloc (.loop { state := .ready, pending := none, fn := fn, tmps := a.tmps, params := ps, assign := assign, body := body, defers := w.heap.size })) = w2 at hh1 hp hh2 hent
  have hev := hl.ev hg
  have hca : callable P gf = true := hc
  unfold callable at hc
  split at hc
  · rename_i fnd hfn
    simp only [Bool.and_eq_true, Bool.not_eq_true', beq_eq_false_iff_ne] at hc
    obtain ⟨cb, hb⟩ := Option.isSome_iff_exists.1 hc.2
    refine ⟨w.heap.size + 1, [mark w.heap.size], w2, ⟨.fn (.func gf) cap, #[.func (.yield (w.heap.size + 1)) #[] #[]]⟩, w2, gf, #[.func (.yield (w.heap.size + 1)) #[] #[]] ++ cap, w2, hent, ?_, fun _ _ => trivial, ?_, (fun h => by cases h), ?_⟩
    · have e2 : ∀ v, a.eval (.const v) = v := fun _ => rfl
      simp [resolve, hev, Deferred.ofValue, e2]
    · simp [invoke, callFunc, hfn, hc.1, hb]
    · refine callsIn_wr.2 ((hs _ hp hh2.left.1 hh2.left.2).mono fun e w' he => ?_)
      cases e with
      | returned v =>
        obtain ⟨F', hRv, hhas⟩ := he
        have hh3 := hh2.call (fun b hb => hb) hhas
        obtain ⟨lp, G1, hf, hst, hcase⟩ := hR v F' w' hRv hh3
        have hlm := hh3.mem _ _ hf.mem
        have hh4 : Has D w0 ((w.heap.size + 1, .loop { lp with state := .exhausted }) :: G1) (w'.putObj (w.heap.size + 1) (.loop { lp with state := .exhausted })) := hh3.write hf rfl rfl rfl rfl
        have hla : SlD [mark w.heap.size] n L { a with defers := [mark w.heap.size] ++ a.defers } := ⟨hl.size, by show [mark w.heap.size] ++ a.defers = _; rw [hl.defers]; rfl, hl.get⟩
        refine ⟨lp.pending, _, run_endLoop hlm hst, ?_⟩
        rcases hcase with ⟨hpn, hq⟩ | ⟨hpn, hq⟩
        · have hh5 := hh4.tail
          rw [hpn] at hh5 ⊢; exact hq _ _ hla hh5
        · have hh5 := hh4.tail
          rw [hpn] at hh5 ⊢; exact wpIn_ret (hq _ _ hla hh5)
      | panicked c => exact he.elim
      | outgrown => exact he.elim
  · cases hc

/-- a function that holds a range over a function -/
def MPost (P : Program) (fn : Func) (R : Ending → World → Prop) : Exit → Act → World → Prop
  | .ret, a, w => (a.defers = [] ∧ ∃ v, (results fn a.tmps).run P w = .ok v w ∧ R (.returned v) w) ∨
      ∃ dm w', a.defers = [mark dm] ∧ (Instr.takeDeferred dm).run P w = .ok [] w' ∧ ∃ v, (results fn a.tmps).run P w' = .ok v w' ∧ R (.returned v) w'
  | _, _, _ => False
theorem f_enterM {f : FuncId} {fn : Func} {c : Code} {args : List Value} {R : Value → List (Nat × Obj) → Prop} {N : Nat} (hf : P.funcs[f]? = some fn) (hb : fn.body = some c) (hN : fn.ntmps = N) (hargs : Nat.ble args.length N = true)
    {Pre : World → Prop} (h : ∀ w0 w a, Pre w0 → Sl N (slotsFrom 0 args) a → Has (F.map Prod.fst) w0 F w → c.wpIn (Wr none) 0 P (MPost P fn (Post (F.map Prod.fst) w0 R)) a w) : SpK P f ⟨args⟩ Pre F R := by
  intro w hpre hm hn
  refine callsIn_wr (r := none) (n := 0) |>.1 (callsIn_of_wp_marks hf hb trivial ?_)
  refine wpIn_mono (h w w _ hpre ⟨?_, rfl, fun t v hv => ?_⟩ (Has.start hm hn)) fun e a w' he => ?_
  · have := Nat.le_of_ble_eq_true hargs; simp [hN]; omega
  · obtain ⟨_, h2⟩ := look_slotsFrom args 0 t v hv
    simp only [Nat.sub_zero] at h2
    have ht : t < args.length := (List.getElem?_eq_some_iff.1 h2).1
    rw [Array.getElem?_append_left (by simpa using ht)]
    simpa using h2
  · cases e with
    | ret =>
      show LeavesInM _ _ _ _ _ _ _ _ _
      rcases he with ⟨hd, v, hr, hR⟩ | ⟨dm, w'', hd, ht, v, hr, hR⟩
      · rw [hd]
        exact ⟨v, hr, hR⟩
      · rw [hd]
        exact ⟨by simp, .inl ⟨dm, w'', rfl, ht, ⟨v, hr, hR⟩⟩⟩
    | normal => exact he.elim
    | exit id => exact he.elim
    | goto t => exact he.elim
    | panic c => exact he.elim
    | outgrown => exact he.elim
theorem m_ret {fn : Func} {R : Ending → World → Prop} (h : bodyPost P fn R .ret a w) : MPost P fn R .ret a w := .inl h
theorem f_ret1M {fn : Func} {R : Value → List (Nat × Obj) → Prop} {t dm : Nat} {v : Value} {F' G1 : List (Nat × Obj)} (hl : SlD [mark dm] n L a) (hh : Has D w0 F w) (hdm : Find F dm (.deferred (some [])) G1) (hr : fn.results = #[.tmp t]) (hv : look L t = some v) (hp : Keeps G1 F' G) (hR : R v F') : MPost P fn (Post D w0 R) .ret a w :=
  .inr ⟨dm, _, hl.defers, run_takeDeferred (hh.mem _ _ hdm.mem), v, by simp [results, hr, hl.get t v hv], F', hR, ((hh.write (o' := .deferred none) (w' := w.putObj dm (.deferred none)) hdm rfl rfl rfl rfl).tail).keep hp⟩
theorem run_loadVar_1 {t : TypeId} {b : Nat} {v : Value} {T' : TypeId} (ht : oneOk P t = true) (hm : w.heap[b]? = some (C [v] T')) : (loadVar t ⟨b, 0, none⟩).run P w = .ok v w := by
  have h1 : (load ⟨b, 0, none⟩).run P w = .ok v w := run_load1 (P := P) (o := 0) (c := ⟨[v]⟩) hm rfl
  simp only [loadVar, Sem.run_bind, (oneOk_run ht).1, Result.andThen]
  exact h1
theorem f_retCCM {fn : Func} {R : Value → List (Nat × Obj) → Prop} {t t2 dm m b b2 : Nat} {ty ty2 T' T2 : TypeId} {l : List Value} {v2 : Value} {F' G1 G2 G3 : List (Nat × Obj)} (hl : SlD [mark dm] n L a) (hh : Has D w0 F w) (hdm : Find F dm (.deferred (some [])) G1) (hr : fn.results = #[.cell t ty, .cell t2 ty2])
    (hv : look L t = some (.pointer (some ⟨b, 0, none⟩))) (hv2 : look L t2 = some (.pointer (some ⟨b2, 0, none⟩))) (ht : aggOk P ty m = true) (ht2 : oneOk P ty2 = true) (hf : Find G1 b (C l T') G2) (hf2 : Find G1 b2 (C [v2] T2) G3) (hn : l.length = m) (hp : Keeps G1 F' G) (hR : R (.tuple #[.agg ⟨l⟩, v2]) F') : MPost P fn (Post D w0 R) .ret a w := by
  have hh1 := (hh.write (o' := .deferred none) (w' := w.putObj dm (.deferred none)) hdm rfl rfl rfl rfl).tail
  exact .inr ⟨dm, _, hl.defers, run_takeDeferred (hh.mem _ _ hdm.mem), .tuple #[.agg ⟨l⟩, v2], by simp [results, hr, hl.get t _ hv, hl.get t2 _ hv2, asAddr, run_loadVar_C ht (hh1.mem b _ hf.mem) hn, run_loadVar_1 ht2 (hh1.mem b2 _ hf2.mem)], F', hR, hh1.keep hp⟩
theorem f_retCTM {fn : Func} {R : Value → List (Nat × Obj) → Prop} {t t2 dm m b : Nat} {ty T' : TypeId} {l : List Value} {v2 : Value} {F' G1 G2 : List (Nat × Obj)} (hl : SlD [mark dm] n L a) (hh : Has D w0 F w) (hdm : Find F dm (.deferred (some [])) G1) (hr : fn.results = #[.cell t ty, .tmp t2])
    (hv : look L t = some (.pointer (some ⟨b, 0, none⟩))) (hv2 : look L t2 = some v2) (ht : aggOk P ty m = true) (hf : Find G1 b (C l T') G2) (hn : l.length = m) (hp : Keeps G1 F' G) (hR : R (.tuple #[.agg ⟨l⟩, v2]) F') : MPost P fn (Post D w0 R) .ret a w := by
  have hh1 := (hh.write (o' := .deferred none) (w' := w.putObj dm (.deferred none)) hdm rfl rfl rfl rfl).tail
  exact .inr ⟨dm, _, hl.defers, run_takeDeferred (hh.mem _ _ hdm.mem), .tuple #[.agg ⟨l⟩, v2], by simp [results, hr, hl.get t _ hv, hl.get t2 _ hv2, asAddr, run_loadVar_C ht (hh1.mem b _ hf.mem) hn], F', hR, hh1.keep hp⟩
end rfn
end Go.Eng

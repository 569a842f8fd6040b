import Derived.Test.Qxb6500908aGreatEng
import Derived.Test.Qxb6500908aGreatStr
set_option linter.unusedVariables false
set_option linter.unusedSimpArgs false
namespace Go.Eng
section ifc
variable {P : Program} {n : Nat} {L : List (Nat × Value)} {a : Act} {w : World} {T : TypeId} {pos : String} {aft : Array Edge} {g : Option (Nat × Bool)} {dst : Option Nat} {x y : Operand}
/-- the type t has a method of this name by pointer: the function f -/
def methOk (P : Program) (t : TypeId) (name : String) (f : FuncId) : Bool :=
  match P.info? t, P.underlying t with
  | some i, some (.pointer _) =>
    match i.methods.find? (·.name == name) with
    | some m => m.path.isEmpty && (match m.func with | some (g, true) => g == f | _ => false)
    | none => false
  | _, _ => false
theorem run_method {t : TypeId} {name : String} {f : FuncId} {v : Value} {k : Nat} (h : methOk P t name f = true) : (method (k + 1) t v name).run P w = .ok (f, v) w := by
  unfold methOk at h
  split at h
  · rename_i i e hi hu
    split at h
    · rename_i m hm
      rw [Bool.and_eq_true] at h
      obtain ⟨hp, hf⟩ := h
      split at hf
      · rename_i g hg
        have hgf : g = f := by simpa using hf
        subst hgf
        have hpl : m.path.toList = [] := by
          have : m.path = #[] := by simpa using hp
          rw [this]
        unfold method
        simp only [Sem.run_bind, typeInfo, run_program, Result.andThen_ok, hi, Sem.run_pure, hm, hpl, follow, hg, receiverAt, run_underlying hu, Place.get]
      · cases hf
    · cases h
  · cases h
theorem r_nilCheckI {t : TypeId} {v : Value} (hl : Sl n L a) (hx : val L x = some (.iface t v)) : Gives P a ⟨dst, .nilCheck x, T, pos, aft, g⟩ w (.iface t v) w := by
  simp [Gives, execOp, hl.ev hx]
theorem run_callI {f : FuncId} {xs : List Operand} {vs : List Value} {fo : Operand} {t : TypeId} {v : Value} {name : String} {ts : Array TypeId} {dst : Option Nat} (hl : Sl n L a) (hf : val L fo = some (.iface t v)) (hm : methOk P t name f = true) (hc : callable P f = true) (hv : vals L xs = some vs) :
    (execOp a.eval ⟨dst, .call { callee := .invoke fo name, args := ⟨xs⟩, argTypes := ts }, T, pos, aft, g⟩).run P w = .ok (.enter f (⟨v :: vs⟩)) w := by
  unfold callable at hc
  have he := hl.evs xs vs hv
  split at hc
  · rename_i fn hfn
    simp only [Bool.and_eq_true, Bool.not_eq_true', beq_eq_false_iff_ne] at hc
    obtain ⟨c, hb⟩ := Option.isSome_iff_exists.1 hc.2
    have hmp : (Array.map a.eval ⟨xs⟩ : Array Value) = ⟨vs⟩ := by
      apply Array.ext'
      simp [he]
    have hmm : ∀ k, (method (k + Made.depth) t v name).run P w = .ok (f, v) w := fun k => run_method (k := k + (Made.depth - 1)) hm
    simp [execOp, resolve, hl.ev hf, invoke, callMethod, hmm, callFunc, hfn, hc.1, hb, hmp]
  · cases hc
end ifc
section ifc2
variable {P : Program} {n : Nat} {L : List (Nat × Value)} {a : Act} {w : World} {T : TypeId} {pos : String} {aft : Array Edge} {g : Option (Nat × Bool)}
variable {ops : Array Oper} {Q : Exit → Act → World → Prop} {K : Act → World → Prop} {D : List Nat} {w0 : World} {F G : List (Nat × Obj)}
theorem w_callI {d : Nat} {f : FuncId} {xs : List Operand} {vs : List Value} {fo : Operand} {t : TypeId} {r : Value} {name : String} {ts : Array TypeId} {Fn : List (Nat × Obj)} {R : Value → List (Nat × Obj) → Prop}
    (hl : Sl n L a) (hh : Has D w0 F w) (hd : Nat.blt d n = true) (hg : GuardOk ops L g) (hf : val L fo = some (.iface t r)) (hm : methOk P t name f = true) (hc : callable P f = true) (hv : vals L xs = some vs)
    {Pre : World → Prop} (hs : SpK P f ⟨r :: vs⟩ Pre Fn R) (hp : Keeps F Fn G) (hpre : Pre w)
    (k : ∀ v F' a' w', R v F' → Sl n ((d, v) :: L) a' → Has D w0 (F' ++ G) w' → K a' w') :
    OpW P ops Q ⟨some d, .call { callee := .invoke fo name, args := ⟨xs⟩, argTypes := ts }, T, pos, aft, g⟩ K a w := by
  have hh' := hh.perm hp.perm
  unfold OpW
  rw [if_pos (wanted_ok hl (o := ⟨some d, .call { callee := .invoke fo name, args := ⟨xs⟩, argTypes := ts }, T, pos, aft, g⟩) hg)]
  left
  unfold Oper.wp
  rw [run_callI hl hf hm hc hv]
  show Calls P f _ w _
  refine (hs w hpre hh'.left.1 hh'.left.2).mono fun e w' he => ?_
  cases e with
  | returned v =>
    obtain ⟨F', hR, hhas⟩ := he
    exact k v F' _ w' hR (hl.put hd v) (hh'.call (fun b hb => hb) hhas)
  | panicked c => exact he.elim
  | outgrown => exact he.elim
theorem w_callI0 {f : FuncId} {xs : List Operand} {vs : List Value} {fo : Operand} {t : TypeId} {r : Value} {name : String} {ts : Array TypeId} {Fn : List (Nat × Obj)} {R : Value → List (Nat × Obj) → Prop}
    (hl : Sl n L a) (hh : Has D w0 F w) (hg : GuardOk ops L g) (hf : val L fo = some (.iface t r)) (hm : methOk P t name f = true) (hc : callable P f = true) (hv : vals L xs = some vs)
    {Pre : World → Prop} (hs : SpK P f ⟨r :: vs⟩ Pre Fn R) (hp : Keeps F Fn G) (hpre : Pre w)
    (k : ∀ v F' w', R v F' → Has D w0 (F' ++ G) w' → K a w') :
    OpW P ops Q ⟨none, .call { callee := .invoke fo name, args := ⟨xs⟩, argTypes := ts }, T, pos, aft, g⟩ K a w := by
  have hh' := hh.perm hp.perm
  unfold OpW
  rw [if_pos (wanted_ok hl (o := ⟨none, .call { callee := .invoke fo name, args := ⟨xs⟩, argTypes := ts }, T, pos, aft, g⟩) hg)]
  left
  unfold Oper.wp
  rw [run_callI hl hf hm hc hv]
  show Calls P f _ w _
  refine (hs w hpre hh'.left.1 hh'.left.2).mono fun e w' he => ?_
  cases e with
  | returned v =>
    obtain ⟨F', hR, hhas⟩ := he
    exact k v F' w' hR (hh'.call (fun b hb => hb) hhas)
  | panicked c => exact he.elim
  | outgrown => exact he.elim
end ifc2
end Go.Eng

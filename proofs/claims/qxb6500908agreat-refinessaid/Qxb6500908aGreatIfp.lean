import Derived.Test.Qxb6500908aGreatEng
import Derived.Test.Qxb6500908aGreatIfc
set_option linter.unusedVariables false
set_option linter.unusedSimpArgs false
namespace Go.Eng
/-- a method call by interface: which function is entered, and with which receiver -/
structure Disp (P : Program) (t : TypeId) (name : String) (f : FuncId) (r r' : Value) : Prop where
  run : ∀ (w : World) (k : Nat), (method (k + 1) t r name).run P w = .ok (f, r') w
  cal : callable P f = true
theorem Disp.self {P : Program} {t : TypeId} {name : String} {f : FuncId} (r : Value) (h : methOk P t name f = true) (hc : callable P f = true) : Disp P t name f r r := ⟨fun w k => run_method h, hc⟩
/-- a method promoted out of the first field -/
def methUp (P : Program) (t : TypeId) (name : String) (f : FuncId) : Bool :=
  match P.info? t with
  | some i =>
    match i.methods.find? (·.name == name) with
    | some m =>
      match m.path.toList, m.func with
      | [s], some (g, true) => g == f && s.deref && (match P.underlying s.struct with
        | some (.struct fields) => (match fields[s.index]? with
          | some fd => fd.offset == 0 && (match P.info? fd.type with | some j => !(j.size == 0) | none => false) && (match P.underlying fd.type with | some (.struct _) => true | _ => false)
          | none => false)
        | _ => false)
      | _, _ => false
    | none => false
  | none => false
theorem Disp.up {P : Program} {t : TypeId} {name : String} {f : FuncId} (b : Nat) (h : methUp P t name f = true) (hc : callable P f = true) : Disp P t name f (.pointer (some ⟨b, 0, none⟩)) (.pointer (some ⟨b, 0, none⟩)) := by
  refine ⟨fun w k => ?_, hc⟩
  unfold methUp at h
  split at h
  · rename_i i hi
    split at h
    · rename_i m hm
      split at h
      · rename_i s g hp hf
        rw [Bool.and_eq_true, Bool.and_eq_true] at h
        obtain ⟨⟨hg, hd⟩, h⟩ := h
        have hgf : g = f := by simpa using hg
        subst hgf
        split at h
        · rename_i fields hu
          split at h
          · rename_i fd hfd
            rw [Bool.and_eq_true, Bool.and_eq_true] at h
            obtain ⟨⟨ho, hz⟩, h⟩ := h
            split at hz
            · rename_i j hj
              split at h
              · rename_i ff hu2
                have ho : fd.offset = 0 := by simpa using ho
                have hz : ¬ j.size = 0 := by simpa using hz
                unfold method
                simp only [Sem.run_bind, typeInfo, run_program, Result.andThen_ok, hi, Sem.run_pure, hm, hp, follow, hf, run_underlying hu, hfd, hd, if_true, Place.get, asAddr, fieldPlace, sizeOf, hj, hz, if_false, receiverAt, run_underlying hu2, ho]
                rfl
              · cases h
            · cases hz
          · cases h
        · cases h
      · cases h
    · cases h
  · cases h
section ifp
variable {P : Program} {n : Nat} {L : List (Nat × Value)} {a : Act} {w : World} {T : TypeId} {pos : String} {aft : Array Edge} {g : Option (Nat × Bool)} {dst : Option Nat} {x y : Operand}
theorem run_callP {f : FuncId} {xs : List Operand} {vs : List Value} {fo : Operand} {t : TypeId} {r r' : Value} {name : String} {ts : Array TypeId} {dst : Option Nat} (hl : Sl n L a) (hf : val L fo = some (.iface t r)) (hm : Disp P t name f r r') (hv : vals L xs = some vs) :
    (execOp a.eval ⟨dst, .call { callee := .invoke fo name, args := ⟨xs⟩, argTypes := ts }, T, pos, aft, g⟩).run P w = .ok (.enter f (⟨r' :: vs⟩)) w := by
  obtain ⟨hm, hc⟩ := hm
  unfold callable at hc
  have he := hl.evs xs vs hv
  split at hc
  · rename_i fn hfn
    simp only [Bool.and_eq_true, Bool.not_eq_true', beq_eq_false_iff_ne] at hc
    obtain ⟨c, hb⟩ := Option.isSome_iff_exists.1 hc.2
    have hmp : (Array.map a.eval ⟨xs⟩ : Array Value) = ⟨vs⟩ := by
      apply Array.ext'
      simp [he]
    have hmm : ∀ k, (method (k + Made.depth) t r name).run P w = .ok (f, r') w := fun k => hm w (k + (Made.depth - 1))
    simp [execOp, resolve, hl.ev hf, invoke, callMethod, hmm, callFunc, hfn, hc.1, hb, hmp]
  · cases hc
variable {ops : Array Oper} {Q : Exit → Act → World → Prop} {K : Act → World → Prop} {D : List Nat} {w0 : World} {F G : List (Nat × Obj)}
theorem w_callP {d : Nat} {f : FuncId} {xs : List Operand} {vs : List Value} {fo : Operand} {t : TypeId} {r r' : Value} {name : String} {ts : Array TypeId} {Fn : List (Nat × Obj)} {R : Value → List (Nat × Obj) → Prop}
    (hl : Sl n L a) (hh : Has D w0 F w) (hd : Nat.blt d n = true) (hg : GuardOk ops L g) (hf : val L fo = some (.iface t r)) (hm : Disp P t name f r r') (hv : vals L xs = some vs)
    {Pre : World → Prop} (hs : SpK P f ⟨r' :: vs⟩ Pre Fn R) (hp : Keeps F Fn G) (hpre : Pre w)
    (k : ∀ v F' a' w', R v F' → Sl n ((d, v) :: L) a' → Has D w0 (F' ++ G) w' → K a' w') :
    OpW P ops Q ⟨some d, .call { callee := .invoke fo name, args := ⟨xs⟩, argTypes := ts }, T, pos, aft, g⟩ K a w := by
  have hh' := hh.perm hp.perm
  unfold OpW
  rw [if_pos (wanted_ok hl (o := ⟨some d, .call { callee := .invoke fo name, args := ⟨xs⟩, argTypes := ts }, T, pos, aft, g⟩) hg)]
  left
  unfold Oper.wp
  rw [run_callP hl hf hm hv]
  show Calls P f _ w _
  refine (hs w hpre hh'.left.1 hh'.left.2).mono fun e w' he => ?_
  cases e with
  | returned v =>
    obtain ⟨F', hR, hhas⟩ := he
    exact k v F' _ w' hR (hl.put hd v) (hh'.call (fun b hb => hb) hhas)
  | panicked c => exact he.elim
  | outgrown => exact he.elim
theorem w_callP0 {f : FuncId} {xs : List Operand} {vs : List Value} {fo : Operand} {t : TypeId} {r r' : Value} {name : String} {ts : Array TypeId} {Fn : List (Nat × Obj)} {R : Value → List (Nat × Obj) → Prop}
    (hl : Sl n L a) (hh : Has D w0 F w) (hg : GuardOk ops L g) (hf : val L fo = some (.iface t r)) (hm : Disp P t name f r r') (hv : vals L xs = some vs)
    {Pre : World → Prop} (hs : SpK P f ⟨r' :: vs⟩ Pre Fn R) (hp : Keeps F Fn G) (hpre : Pre w)
    (k : ∀ v F' w', R v F' → Has D w0 (F' ++ G) w' → K a w') :
    OpW P ops Q ⟨none, .call { callee := .invoke fo name, args := ⟨xs⟩, argTypes := ts }, T, pos, aft, g⟩ K a w := by
  have hh' := hh.perm hp.perm
  unfold OpW
  rw [if_pos (wanted_ok hl (o := ⟨none, .call { callee := .invoke fo name, args := ⟨xs⟩, argTypes := ts }, T, pos, aft, g⟩) hg)]
  left
  unfold Oper.wp
  rw [run_callP hl hf hm hv]
  show Calls P f _ w _
  refine (hs w hpre hh'.left.1 hh'.left.2).mono fun e w' he => ?_
  cases e with
  | returned v =>
    obtain ⟨F', hR, hhas⟩ := he
    exact k v F' w' hR (hh'.call (fun b hb => hb) hhas)
  | panicked c => exact he.elim
  | outgrown => exact he.elim
end ifp
end Go.Eng

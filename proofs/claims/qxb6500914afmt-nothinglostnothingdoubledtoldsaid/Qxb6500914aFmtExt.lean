import Derived.Test.Qxb6500914aFmtEng
import Derived.Test.Qxb6500914aFmtMrg
import Derived.Laws.Externs
import Derived.Laws.NewFold
set_option linter.unusedVariables false
set_option linter.unusedSimpArgs false
namespace Go.Eng
open Go.Extern.Stop Go.Stop Go.Extern
/-! ## map literals; calls of fmt.Sprintf (its text left open: some string) -/
section mapr
variable {κ : Type} [DecidableEq κ]
section rules
variable {P : Program} {n : Nat} {L : List (Nat × Value)} {a : Act} {w : World} {T : TypeId} {pos : String} {aft : Array Edge} {g : Option (Nat × Bool)} {dst : Option Nat}
variable {ops : Array Oper} {Q : Exit → Act → World → Prop} {K : Act → World → Prop} {D : List Nat} {w0 : World} {F G : List (Nat × Obj)}
variable {x y : Operand} {t kt et : TypeId} {z : Value} {b : Nat} {k : κ → Value} {l : List (κ × Value)} {ak : κ}
theorem w_insert {u : Operand} {v : Value} (hk : KeyOk P kt k) (ht : P.underlying t = some (.map kt et)) (hl : Sl n L a) (hh : Has D w0 F w) (hg : GuardOk ops L g)
    (hx : val L x = some (.map (some b))) (hy : val L y = some (k ak)) (hu : val L u = some v) (hf : Find F b (MO k l) G) (kk : ∀ w', Has D w0 ((b, MO k (mput l ak v)) :: G) w' → K a w') : OpW P ops Q ⟨none, .insert t x y u, T, pos, aft, g⟩ K a w := by
  refine wl_unit hl hg (w' := { w with heap := w.heap.setIfInBounds b (MO k (mput l ak v)) }) ?_ (kk _ (hh.write hf rfl rfl rfl rfl))
  have := r_mapUpdate (dst := none) (T := T) (pos := pos) (aft := aft) (g := g) hk ht hl hx hy hu (hh.mem _ _ hf.mem)
  simp only [Does, execOp] at this ⊢
  exact this
/-- a call of a function without a body -/
theorem w_extern {d : Nat} {f : FuncId} {xs : List Operand} {vs : List Value} {fo : Operand} {ts : Array TypeId} {e : Array Value → Sem Value}
    (hc : ∀ (args : Array Value) (w : World), (callFunc f args).run P w = ((e args).run P w).andThen fun v w' => .ok (.value v) w')
    (hl : Sl n L a) (hh : Has D w0 F w) (hd : Nat.blt d n = true) (hg : GuardOk ops L g) (hf : val L fo = some (.func (.func f) #[] #[])) (hv : vals L xs = some vs)
    (hr : ∃ u w', (e ⟨vs⟩).run P w = .ok (.string u) w' ∧ (w' = w ∨ w' = w.drew)) (kk : ∀ u a' w', Sl n ((d, .string u) :: L) a' → Has D w0 F w' → K a' w') :
    OpW P ops Q ⟨some d, .call { callee := .value fo, args := ⟨xs⟩, argTypes := ts }, T, pos, aft, g⟩ K a w := by
  obtain ⟨u, w1, hr, hw⟩ := hr
  have hh1 : Has D w0 F w1 := by rcases hw with rfl | rfl; exact hh; exact hh.drew
  have he := hl.evs xs vs hv
  have hm : (Array.map a.eval ⟨xs⟩ : Array Value) = ⟨vs⟩ := by
    apply Array.ext'
    simp [he]
  refine wl_val hl hd hg (v := .string u) (w' := w1) ?_ fun a' hl' => kk u a' _ hl' hh1
  have h1 := hc ⟨vs⟩ w
  rw [hr] at h1
  simp only [Result.andThen] at h1
  simp [Gives, execOp, resolve, hl.ev hf, Deferred.ofValue, invoke, hm, h1]
end rules
end mapr
theorem kBool_same (a b : Bool) : Instr.sameNow .bool (.bool a) (.bool b) = some (decide (a = b)) := by cases a <;> cases b <;> rfl
def kBool (b : Bool) : Value := .bool b
theorem keyBool {P : Program} {kt : TypeId} (h : P.underlying kt = some .bool) : KeyOk P kt kBool :=
  KeyOk.now ⟨.bool, h, kBool_same, fun _ q => (by cases q), fun _ _ q => (by cases q), fun _ q => (by cases q)⟩ (fun a => by cases a <;> rfl)
end Go.Eng

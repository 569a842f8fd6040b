import Derived.WalkKit
import Derived.Orders
import Derived.DeepKeys
namespace Go.Eng
set_option linter.unusedSimpArgs false
set_option linter.unusedVariables false

/-! ## slots -/
def look : List (Nat × Value) → Nat → Option Value
  | [], _ => none
  | (s, v) :: L, t => bif Nat.beq s t then some v else look L t

def val (L : List (Nat × Value)) : Operand → Option Value
  | .tmp t => look L t
  | .const v => some v
  | .global g => some (.pointer (some ⟨g, 0, none⟩))
  | .func f => some (.func (.func f) #[] #[])

structure SlD (dfs : List Deferred) (n : Nat) (L : List (Nat × Value)) (a : Act) : Prop where
  size : a.tmps.size = n
  defers : a.defers = dfs
  get : ∀ t v, look L t = some v → a.tmps[t]? = some v
abbrev Sl (n : Nat) (L : List (Nat × Value)) (a : Act) : Prop := SlD [] n L a
variable {dfs : List Deferred}

theorem SlD.ev {n : Nat} {L : List (Nat × Value)} {a : Act} (h : SlD dfs n L a) {x : Operand} {v : Value} (hv : val L x = some v) : a.eval x = v := by
  cases x with
  | tmp t => have := h.get t v hv; simp [Act.eval, this]
  | const u => simpa [val, Act.eval] using hv
  | global g => simpa [val, Act.eval] using hv
  | func f => simpa [val, Act.eval] using hv

theorem SlD.put {n : Nat} {L : List (Nat × Value)} {a : Act} (h : SlD dfs n L a) {d : Nat} (hd : Nat.blt d n = true) (v : Value) : SlD dfs n ((d, v) :: L) (a.put (some d) v) := by
  have hd' : d < n := Nat.blt_eq.mp hd
  refine ⟨by simp [Act.put, h.size], by simp [Act.put, h.defers], fun t u hu => ?_⟩
  simp only [look] at hu
  by_cases e : d = t
  · subst e
    simp only [Nat.beq_refl, cond_true, Option.some.injEq] at hu
    subst hu
    simp [Act.put, h.size, hd']
  · have e' : Nat.beq d t = false := by
      cases hb : Nat.beq d t
      · rfl
      · exact absurd (Nat.eq_of_beq_eq_true hb) e
    rw [e'] at hu
    simp only [cond_false] at hu
    have := h.get t u hu
    simp only [Act.put]
    rw [Array.getElem?_setIfInBounds_ne (by omega)]
    exact this

theorem SlD.sub {n : Nat} {L L' : List (Nat × Value)} {a : Act} (h : SlD dfs n L a) (hs : ∀ t v, look L' t = some v → look L t = some v) : SlD dfs n L' a :=
  ⟨h.size, h.defers, fun t v hv => h.get t v (hs t v hv)⟩

theorem SlD.nil {n : Nat} {L : List (Nat × Value)} {a : Act} (h : SlD dfs n L a) : SlD dfs n [] a := ⟨h.size, h.defers, fun t v hv => by simp [look] at hv⟩

/-- one more fact, known already -/
theorem SlD.add {n : Nat} {L : List (Nat × Value)} {a : Act} (h : SlD dfs n L a) {L' : List (Nat × Value)} (h' : SlD dfs n L' a) {t : Nat} {v : Value} (hv : look L t = some v) : SlD dfs n ((t, v) :: L') a := by
  refine ⟨h.size, h.defers, fun s u hu => ?_⟩
  simp only [look] at hu
  cases hb : Nat.beq t s
  · rw [hb] at hu; exact h'.get s u hu
  · rw [hb] at hu
    simp only [cond_true, Option.some.injEq] at hu
    have := Nat.eq_of_beq_eq_true hb
    subst this; subst hu
    exact h.get t v hv

/-! ## the heap -/
structure Frm (D : List Nat) (w0 w : World) : Prop where
  os : w.os = w0.os
  tape : w.tape = w0.tape
  output : w.output = w0.output
  size : w0.heap.size ≤ w.heap.size
  block : ∀ b, b < w0.heap.size → b ∉ D → w.heap[b]? = w0.heap[b]?

theorem Frm.refl (D : List Nat) (w : World) : Frm D w w := ⟨rfl, rfl, rfl, Nat.le_refl _, fun _ _ _ => rfl⟩

def Mem (F : List (Nat × Obj)) (w : World) : Prop := ∀ b o, (b, o) ∈ F → w.heap[b]? = some o

structure Has (D : List Nat) (w0 : World) (F : List (Nat × Obj)) (w : World) : Prop where
  frm : Frm D w0 w
  mem : Mem F w
  nodup : (F.map Prod.fst).Nodup
  own : ∀ b o, (b, o) ∈ F → b ∈ D ∨ w0.heap.size ≤ b

/-- a row of cells that nothing has frozen -/
def C (l : List Value) (T : TypeId) : Obj := .cells ⟨l⟩ T (0, 0)

structure Find (F : List (Nat × Obj)) (b : Nat) (o : Obj) (G : List (Nat × Obj)) : Prop where
  perm : F.Perm ((b, o) :: G)
theorem find_head {b : Nat} {o : Obj} {G : List (Nat × Obj)} : Find ((b, o) :: G) b o G := ⟨List.Perm.refl _⟩
theorem find_tail {F : List (Nat × Obj)} {b : Nat} {o : Obj} {G : List (Nat × Obj)} {x : Nat × Obj} (h : Find F b o G) : Find (x :: F) b o (x :: G) :=
  ⟨(List.Perm.cons x h.perm).trans (List.Perm.swap _ _ _)⟩

theorem Find.mem {F : List (Nat × Obj)} {b : Nat} {o : Obj} {G : List (Nat × Obj)} (h : Find F b o G) : (b, o) ∈ F := h.perm.mem_iff.2 (List.mem_cons_self ..)

theorem Has.perm {D : List Nat} {w0 w : World} {F G : List (Nat × Obj)} (h : Has D w0 F w) (p : F.Perm G) : Has D w0 G w :=
  ⟨h.frm, fun b o m => h.mem b o (p.mem_iff.2 m), (p.map Prod.fst).nodup_iff.1 h.nodup, fun b o m => h.own b o (p.mem_iff.2 m)⟩

theorem Has.tail {D : List Nat} {w0 w : World} {F : List (Nat × Obj)} {x : Nat × Obj} (h : Has D w0 (x :: F) w) : Has D w0 F w :=
  ⟨h.frm, fun b o m => h.mem b o (List.mem_cons_of_mem _ m), by have := h.nodup; simp only [List.map_cons, List.nodup_cons] at this; exact this.2, fun b o m => h.own b o (List.mem_cons_of_mem _ m)⟩

theorem Has.lt {D : List Nat} {w0 w : World} {F : List (Nat × Obj)} (h : Has D w0 F w) {b : Nat} {o : Obj} (m : (b, o) ∈ F) : b < w.heap.size :=
  (Array.getElem?_eq_some_iff.1 (h.mem b o m)).1

theorem mem_map_fst {F : List (Nat × Obj)} {b : Nat} (h : b ∈ F.map Prod.fst) : ∃ o, (b, o) ∈ F := by
  obtain ⟨⟨b', o⟩, m, rfl⟩ := List.mem_map.1 h
  exact ⟨o, m⟩

/-- a new block -/
theorem Has.alloc {D : List Nat} {w0 w : World} {F : List (Nat × Obj)} (h : Has D w0 F w) (o : Obj) : Has D w0 ((w.heap.size, o) :: F) (w.alloc o) := by
  have hold : ∀ b, b < w.heap.size → (w.alloc o).heap[b]? = w.heap[b]? := fun b hb => RowKit.Below.heap_alloc w o b hb
  refine ⟨⟨h.frm.os, h.frm.tape, h.frm.output, ?_, fun b hb hD => ?_⟩, fun b o' m => ?_, ?_, fun b o' m => ?_⟩
  · have := h.frm.size; simp; omega
  · rw [hold b (Nat.lt_of_lt_of_le hb h.frm.size)]; exact h.frm.block b hb hD
  · rcases List.mem_cons.1 m with e | m
    · simp only [Prod.mk.injEq] at e
      obtain ⟨rfl, rfl⟩ := e
      exact (MapKept.heap_alloc w _).1
    · rw [hold b (h.lt m)]; exact h.mem b o' m
  · simp only [List.map_cons, List.nodup_cons]
    refine ⟨fun hm => ?_, h.nodup⟩
    obtain ⟨o', m⟩ := mem_map_fst hm
    exact absurd (h.lt m) (Nat.lt_irrefl _)
  · rcases List.mem_cons.1 m with e | m
    · simp only [Prod.mk.injEq] at e
      exact .inr (by rw [e.1]; exact h.frm.size)
    · exact h.own b o' m

/-- a block written anew -/
theorem Has.write {D : List Nat} {w0 w w' : World} {F G : List (Nat × Obj)} {b : Nat} {o o' : Obj} (h : Has D w0 F w) (hf : Find F b o G)
    (hw : w'.heap = w.heap.setIfInBounds b o') (e1 : w'.os = w.os) (e2 : w'.tape = w.tape) (e3 : w'.output = w.output) : Has D w0 ((b, o') :: G) w' := by
  have h := h.perm hf.perm
  have hb : b < w.heap.size := h.lt (List.mem_cons_self ..)
  have hnd := h.nodup
  simp only [List.map_cons, List.nodup_cons] at hnd
  refine ⟨⟨e1.trans h.frm.os, e2.trans h.frm.tape, e3.trans h.frm.output, ?_, fun c hc hD => ?_⟩, fun c o₂ m => ?_, h.nodup, fun c o₂ m => ?_⟩
  · rw [hw, Array.size_setIfInBounds]; exact h.frm.size
  · have hne : b ≠ c := by
      rintro rfl
      rcases h.own b o (List.mem_cons_self ..) with hh | hh
      · exact hD hh
      · omega
    rw [hw, Array.getElem?_setIfInBounds_ne hne]; exact h.frm.block c hc hD
  · rcases List.mem_cons.1 m with e | m
    · simp only [Prod.mk.injEq] at e
      obtain ⟨rfl, rfl⟩ := e
      rw [hw]; simp [hb]
    · have hne : b ≠ c := by
        rintro rfl
        exact hnd.1 (List.mem_map.2 ⟨_, m, rfl⟩)
      rw [hw, Array.getElem?_setIfInBounds_ne hne]
      exact h.mem c o₂ (List.mem_cons_of_mem _ m)
  · rcases List.mem_cons.1 m with e | m
    · simp only [Prod.mk.injEq] at e
      rw [e.1]; exact h.own b o (List.mem_cons_self ..)
    · exact h.own c o₂ (List.mem_cons_of_mem _ m)

theorem Has.draw {D : List Nat} {w0 w : World} {F : List (Nat × Obj)} (h : Has D w0 F w) (n : Nat) : Has D w0 F { w with drawn := n } :=
  ⟨⟨h.frm.os, h.frm.tape, h.frm.output, h.frm.size, h.frm.block⟩, h.mem, h.nodup, h.own⟩

/-- behind a call whose own frame is 'keys Fn' -/
theorem Has.call {D Dn : List Nat} {w0 w w' : World} {Fn G F' : List (Nat × Obj)} (h : Has D w0 (Fn ++ G) w) (hD : ∀ b, b ∈ Dn → b ∈ Fn.map Prod.fst)
    (hc : Has Dn w F' w') : Has D w0 (F' ++ G) w' := by
  have hnd := h.nodup
  rw [List.map_append, List.nodup_append] at hnd
  obtain ⟨n1, n2, n3⟩ := hnd
  have hG : ∀ b o, (b, o) ∈ G → b ∉ Dn := fun b o m hb => n3 b (hD b hb) b (List.mem_map.2 ⟨_, m, rfl⟩) rfl
  refine ⟨⟨hc.frm.os.trans h.frm.os, hc.frm.tape.trans h.frm.tape, hc.frm.output.trans h.frm.output, Nat.le_trans h.frm.size hc.frm.size, fun b hb hbD => ?_⟩, fun b o m => ?_, ?_, fun b o m => ?_⟩
  · rw [hc.frm.block b (Nat.lt_of_lt_of_le hb h.frm.size), h.frm.block b hb hbD]
    intro hbn
    obtain ⟨o, m⟩ := mem_map_fst (hD b hbn)
    rcases h.own b o (List.mem_append_left _ m) with hh | hh
    · exact hbD hh
    · omega
  · rcases List.mem_append.1 m with m | m
    · exact hc.mem b o m
    · rw [hc.frm.block b (h.lt (List.mem_append_right _ m)) (hG b o m)]
      exact h.mem b o (List.mem_append_right _ m)
  · rw [List.map_append, List.nodup_append]
    refine ⟨hc.nodup, n2, fun x hx y hy e => ?_⟩
    subst e
    obtain ⟨o, m⟩ := mem_map_fst hx
    obtain ⟨o', m'⟩ := mem_map_fst hy
    rcases hc.own x o m with hh | hh
    · exact hG x o' m' hh
    · have := h.lt (List.mem_append_right _ m'); omega
  · rcases List.mem_append.1 m with m | m
    · rcases hc.own b o m with hh | hh
      · obtain ⟨o', m'⟩ := mem_map_fst (hD b hh)
        exact h.own b o' (List.mem_append_left _ m')
      · exact .inr (Nat.le_trans h.frm.size hh)
    · exact h.own b o (List.mem_append_right _ m)

/-! ## one operation -/
section ops
variable {P : Program} {n : Nat} {L : List (Nat × Value)} {a : Act} {w : World} {T : TypeId} {pos : String} {aft : Array Edge} {g : Option (Nat × Bool)} {dst : Option Nat}

def GuardOk (ops : Array Oper) (L : List (Nat × Value)) : Option (Nat × Bool) → Prop
  | none => True
  | some (j, b) => ∃ oj d, ops[j]? = some oj ∧ oj.dst = some d ∧ look L d = some (.bool b)

def GuardNo (ops : Array Oper) (L : List (Nat × Value)) : Option (Nat × Bool) → Prop
  | none => False
  | some (j, b) => ∃ oj d, ops[j]? = some oj ∧ oj.dst = some d ∧ look L d = some (.bool !b)

theorem wanted_ok {ops : Array Oper} (hl : SlD dfs n L a) {o : Oper} (hg : GuardOk ops L o.guard) : Region.wanted o (yielded ops a.tmps) = true := by
  unfold Region.wanted
  cases h : o.guard with
  | none => rfl
  | some p =>
    obtain ⟨j, b⟩ := p
    rw [h] at hg
    obtain ⟨oj, d, h1, h2, h3⟩ := hg
    simp [yielded, h1, h2, hl.get d _ h3]

theorem wanted_no {ops : Array Oper} (hl : SlD dfs n L a) {o : Oper} (hg : GuardNo ops L o.guard) : Region.wanted o (yielded ops a.tmps) = false := by
  unfold Region.wanted
  cases h : o.guard with
  | none => rw [h] at hg; exact hg.elim
  | some p =>
    obtain ⟨j, b⟩ := p
    rw [h] at hg
    obtain ⟨oj, d, h1, h2, h3⟩ := hg
    simp [yielded, h1, h2, hl.get d _ h3]

/-- what an operation does: 'Gives P a o w v w''. -/
def Gives (P : Program) (a : Act) (o : Oper) (w : World) (v : Value) (w' : World) : Prop := (execOp a.eval o).run P w = .ok (.value v) w'
def Does (P : Program) (a : Act) (o : Oper) (w : World) (w' : World) : Prop := (execOp a.eval o).run P w = .ok .skip w'

variable {ops : Array Oper} {Q : Exit → Act → World → Prop} {K : Act → World → Prop}

/-- one operation, and what follows -/
def OpW (P : Program) (ops : Array Oper) (Q : Exit → Act → World → Prop) (o : Oper) (K : Act → World → Prop) (a : Act) (w : World) : Prop :=
  if Region.wanted o (yielded ops a.tmps) then o.wp P a w K Q ∨ (o.asks P a w ∧ LetsOut Q) else K (a.put o.dst undef) w
theorem wl {o : Oper} {rest : List Oper} (h : OpW P ops Q o (wpList P ops Q rest) a w) : wpList P ops Q (o :: rest) a w := h
theorem wo {i : Nat} {o : Oper} (hi : ops[i]? = some o) (h : OpW P ops Q o K a w) : wpOp P ops Q i K a w := by
  unfold wpOp
  rw [hi]
  exact h

theorem wl_val {op : Op} {d : Nat} {v : Value} {w' : World} (hl : SlD dfs n L a) (hd : Nat.blt d n = true) (hg : GuardOk ops L g)
    (hr : Gives P a ⟨some d, op, T, pos, aft, g⟩ w v w') (k : ∀ a', SlD dfs n ((d, v) :: L) a' → K a' w') :
    OpW P ops Q ⟨some d, op, T, pos, aft, g⟩ K a w := by
  unfold OpW
  rw [if_pos (wanted_ok hl (o := ⟨some d, op, T, pos, aft, g⟩) hg)]
  left
  unfold Oper.wp
  rw [hr]
  exact k _ (hl.put hd v)

theorem wl_unit {op : Op} {w' : World} (hl : SlD dfs n L a) (hg : GuardOk ops L g)
    (hr : Does P a ⟨none, op, T, pos, aft, g⟩ w w') (k : K a w') :
    OpW P ops Q ⟨none, op, T, pos, aft, g⟩ K a w := by
  unfold OpW
  rw [if_pos (wanted_ok hl (o := ⟨none, op, T, pos, aft, g⟩) hg)]
  left
  unfold Oper.wp
  rw [hr]
  exact k

theorem wl_skip {op : Op} {d : Nat} (hl : SlD dfs n L a) (hd : Nat.blt d n = true) (hg : GuardNo ops L g)
    (k : ∀ a', SlD dfs n ((d, undef) :: L) a' → K a' w) :
    OpW P ops Q ⟨some d, op, T, pos, aft, g⟩ K a w := by
  unfold OpW
  rw [if_neg (by rw [wanted_no hl (o := ⟨some d, op, T, pos, aft, g⟩) hg]; simp)]
  exact k _ (hl.put hd undef)

theorem wl_skip0 {op : Op} (hl : SlD dfs n L a) (hg : GuardNo ops L g) (k : K a w) :
    OpW P ops Q ⟨none, op, T, pos, aft, g⟩ K a w := by
  unfold OpW
  rw [if_neg (by rw [wanted_no hl (o := ⟨none, op, T, pos, aft, g⟩) hg]; simp)]
  exact k

/-! ### operations that touch no memory -/
theorem r_move {x : Operand} {v : Value} (hl : SlD dfs n L a) (hx : val L x = some v) : Gives P a ⟨dst, .move x, T, pos, aft, g⟩ w v w := by
  simp [Gives, execOp, hl.ev hx]
theorem r_assign {x : Operand} {v : Value} (hl : SlD dfs n L a) (hx : val L x = some v) : Gives P a ⟨dst, .assign x, T, pos, aft, g⟩ w v w := by
  simp [Gives, execOp, hl.ev hx]
theorem r_pick {c x y : Operand} {b : Bool} {v u : Value} (hl : SlD dfs n L a) (hc : val L c = some (.bool b)) (hx : val L x = some v) (hy : val L y = some u) :
    Gives P a ⟨dst, .pick c x y, T, pos, aft, g⟩ w (bif b then v else u) w := by
  cases b <;> simp [Gives, execOp, hl.ev hc, hl.ev hx, hl.ev hy, asBool]
theorem r_pickT {c x y : Operand} {v : Value} (hl : SlD dfs n L a) (hc : val L c = some (.bool true)) (hx : val L x = some v) :
    Gives P a ⟨dst, .pick c x y, T, pos, aft, g⟩ w v w := by
  simp [Gives, execOp, hl.ev hc, hl.ev hx, asBool]
theorem r_pickF {c x y : Operand} {u : Value} (hl : SlD dfs n L a) (hc : val L c = some (.bool false)) (hy : val L y = some u) :
    Gives P a ⟨dst, .pick c x y, T, pos, aft, g⟩ w u w := by
  simp [Gives, execOp, hl.ev hc, hl.ev hy, asBool]
theorem r_nilCheck {x : Operand} {p : Addr} (hl : SlD dfs n L a) (hx : val L x = some (.pointer (some p))) : Gives P a ⟨dst, .nilCheck x, T, pos, aft, g⟩ w (.pointer (some p)) w := by
  simp [Gives, execOp, hl.ev hx]
theorem r_extract {x : Operand} {vs : Array Value} {i : Nat} {v : Value} (hl : SlD dfs n L a) (hx : val L x = some (.tuple vs)) (hv : vs[i]? = some v) : Gives P a ⟨dst, .extract x i, T, pos, aft, g⟩ w v w := by
  simp [Gives, execOp, hl.ev hx, Instr.extract, hv]
theorem r_not {x : Operand} {b : Bool} {t : TypeId} (hl : SlD dfs n L a) (hx : val L x = some (.bool b)) : Gives P a ⟨dst, .unOp .not t x, T, pos, aft, g⟩ w (.bool !b) w := by
  simp [Gives, execOp, hl.ev hx, Op.unary]

/-! integers -/
def Fits : IntKind → Int → Prop
  | .i8, r => -128 ≤ r ∧ r ≤ 127 | .i16, r => -32768 ≤ r ∧ r ≤ 32767 | .i32, r => -2147483648 ≤ r ∧ r ≤ 2147483647
  | .i64, r => -9223372036854775808 ≤ r ∧ r ≤ 9223372036854775807
  | .u8, r => 0 ≤ r ∧ r ≤ 255 | .u16, r => 0 ≤ r ∧ r ≤ 65535 | .u32, r => 0 ≤ r ∧ r ≤ 4294967295 | .u64, r => 0 ≤ r ∧ r ≤ 18446744073709551615

theorem wrap_fits {k : IntKind} {r : Int} (h : Fits k r) : k.wrap r = r := by
  cases k <;> simp only [Fits] at h <;> simp only [IntKind.wrap, IntKind.bits, IntKind.signed] <;> simp <;> omega
theorem fits_wrap (k : IntKind) (r : Int) : Fits k (k.wrap r) := by
  cases k <;> simp only [Fits, IntKind.wrap, IntKind.bits, IntKind.signed] <;> simp <;> omega

section arith
variable {x y : Operand} {k : IntKind} {i j : Int} {t u : TypeId}
theorem r_add (hl : SlD dfs n L a) (hx : val L x = some (.int k i)) (hy : val L y = some (.int k j)) (hf : Fits k (i + j)) : Gives P a ⟨dst, .binOp .add t x y u, T, pos, aft, g⟩ w (.int k (i + j)) w := by
  simp [Gives, execOp, hl.ev hx, hl.ev hy, eqGuard, binOp, Op.intArith, wrap_fits hf]
theorem r_addW (hl : SlD dfs n L a) (hx : val L x = some (.int k i)) (hy : val L y = some (.int k j)) : Gives P a ⟨dst, .binOp .add t x y u, T, pos, aft, g⟩ w (.int k (k.wrap (i + j))) w := by
  simp [Gives, execOp, hl.ev hx, hl.ev hy, eqGuard, binOp, Op.intArith]
theorem r_sub (hl : SlD dfs n L a) (hx : val L x = some (.int k i)) (hy : val L y = some (.int k j)) (hf : Fits k (i - j)) : Gives P a ⟨dst, .binOp .sub t x y u, T, pos, aft, g⟩ w (.int k (i - j)) w := by
  simp [Gives, execOp, hl.ev hx, hl.ev hy, eqGuard, binOp, Op.intArith, wrap_fits hf]
theorem r_subW (hl : SlD dfs n L a) (hx : val L x = some (.int k i)) (hy : val L y = some (.int k j)) : Gives P a ⟨dst, .binOp .sub t x y u, T, pos, aft, g⟩ w (.int k (k.wrap (i - j))) w := by
  simp [Gives, execOp, hl.ev hx, hl.ev hy, eqGuard, binOp, Op.intArith]
theorem r_mul (hl : SlD dfs n L a) (hx : val L x = some (.int k i)) (hy : val L y = some (.int k j)) (hf : Fits k (i * j)) : Gives P a ⟨dst, .binOp .mul t x y u, T, pos, aft, g⟩ w (.int k (i * j)) w := by
  simp [Gives, execOp, hl.ev hx, hl.ev hy, eqGuard, binOp, Op.intArith, wrap_fits hf]
theorem r_mulW (hl : SlD dfs n L a) (hx : val L x = some (.int k i)) (hy : val L y = some (.int k j)) : Gives P a ⟨dst, .binOp .mul t x y u, T, pos, aft, g⟩ w (.int k (k.wrap (i * j))) w := by
  simp [Gives, execOp, hl.ev hx, hl.ev hy, eqGuard, binOp, Op.intArith]
/-- '/' of a number from 0 on by a number above 0 -/
theorem r_quo (hl : SlD dfs n L a) (hx : val L x = some (.int k i)) (hy : val L y = some (.int k j)) (h0 : 0 ≤ i) (h1 : 0 < j) (hf : Fits k i) : Gives P a ⟨dst, .binOp .quo t x y u, T, pos, aft, g⟩ w (.int k (i / j)) w := by
  have e : i.tdiv j = i / j := Int.tdiv_eq_ediv_of_nonneg h0
  have hlo : 0 ≤ i / j := Int.ediv_nonneg h0 (by omega)
  have hle : i / j ≤ i := Int.ediv_le_self _ h0
  have hf' : Fits k (i / j) := by cases k <;> simp only [Fits] at hf ⊢ <;> omega
  simp [Gives, execOp, hl.ev hx, hl.ev hy, eqGuard, binOp, Op.intDiv, e, wrap_fits hf', show ¬ j = 0 by omega]
theorem r_rem (hl : SlD dfs n L a) (hx : val L x = some (.int k i)) (hy : val L y = some (.int k j)) (h0 : 0 ≤ i) (h1 : 0 < j) : Gives P a ⟨dst, .binOp .rem t x y u, T, pos, aft, g⟩ w (.int k (i % j)) w := by
  have e : i.tmod j = i % j := Int.tmod_eq_emod_of_nonneg h0
  simp [Gives, execOp, hl.ev hx, hl.ev hy, eqGuard, binOp, Op.intDiv, e, show ¬ j = 0 by omega]
theorem r_remT (hl : SlD dfs n L a) (hx : val L x = some (.int k i)) (hy : val L y = some (.int k j)) (h1 : j ≠ 0) : Gives P a ⟨dst, .binOp .rem t x y u, T, pos, aft, g⟩ w (.int k (i.tmod j)) w := by
  simp [Gives, execOp, hl.ev hx, hl.ev hy, eqGuard, binOp, Op.intDiv, h1]
theorem r_quoT (hl : SlD dfs n L a) (hx : val L x = some (.int k i)) (hy : val L y = some (.int k j)) (h1 : j ≠ 0) : Gives P a ⟨dst, .binOp .quo t x y u, T, pos, aft, g⟩ w (.int k (k.wrap (i.tdiv j))) w := by
  simp [Gives, execOp, hl.ev hx, hl.ev hy, eqGuard, binOp, Op.intDiv, h1]
theorem r_eql (hl : SlD dfs n L a) (hx : val L x = some (.int k i)) (hy : val L y = some (.int k j)) : Gives P a ⟨dst, .binOp .eql t x y u, T, pos, aft, g⟩ w (.bool (decide (i = j))) w := by
  simp only [Gives, execOp, hl.ev hx, hl.ev hy, eqGuard, binOp, Op.intCmp]
  by_cases e : i = j <;> simp [e]
theorem r_neq (hl : SlD dfs n L a) (hx : val L x = some (.int k i)) (hy : val L y = some (.int k j)) : Gives P a ⟨dst, .binOp .neq t x y u, T, pos, aft, g⟩ w (.bool (decide (i ≠ j))) w := by
  simp only [Gives, execOp, hl.ev hx, hl.ev hy, eqGuard, binOp, Op.intCmp]
  by_cases e : i = j <;> simp [e]
theorem r_lss (hl : SlD dfs n L a) (hx : val L x = some (.int k i)) (hy : val L y = some (.int k j)) : Gives P a ⟨dst, .binOp .lss t x y u, T, pos, aft, g⟩ w (.bool (decide (i < j))) w := by
  simp [Gives, execOp, hl.ev hx, hl.ev hy, eqGuard, binOp, Op.intCmp]
theorem r_leq (hl : SlD dfs n L a) (hx : val L x = some (.int k i)) (hy : val L y = some (.int k j)) : Gives P a ⟨dst, .binOp .leq t x y u, T, pos, aft, g⟩ w (.bool (decide (i ≤ j))) w := by
  simp [Gives, execOp, hl.ev hx, hl.ev hy, eqGuard, binOp, Op.intCmp]
theorem r_gtr (hl : SlD dfs n L a) (hx : val L x = some (.int k i)) (hy : val L y = some (.int k j)) : Gives P a ⟨dst, .binOp .gtr t x y u, T, pos, aft, g⟩ w (.bool (decide (j < i))) w := by
  simp [Gives, execOp, hl.ev hx, hl.ev hy, eqGuard, binOp, Op.intCmp]
theorem r_geq (hl : SlD dfs n L a) (hx : val L x = some (.int k i)) (hy : val L y = some (.int k j)) : Gives P a ⟨dst, .binOp .geq t x y u, T, pos, aft, g⟩ w (.bool (decide (j ≤ i))) w := by
  simp [Gives, execOp, hl.ev hx, hl.ev hy, eqGuard, binOp, Op.intCmp]
/-- the bit operations: as the model has them -/
def bitsOf (op : BinOp) (k : IntKind) (x y : Int) : Int :=
  let a := BitVec.ofInt k.bits x
  let b := BitVec.ofInt k.bits y
  match op with
  | .and => k.wrap (a &&& b).toNat
  | .or => k.wrap (a ||| b).toNat
  | .xor => k.wrap (a ^^^ b).toNat
  | _ => k.wrap (a &&& ~~~b).toNat
theorem r_and (hl : SlD dfs n L a) (hx : val L x = some (.int k i)) (hy : val L y = some (.int k j)) : Gives P a ⟨dst, .binOp .and t x y u, T, pos, aft, g⟩ w (.int k (bitsOf .and k i j)) w := by
  simp [Gives, execOp, hl.ev hx, hl.ev hy, eqGuard, binOp, Op.intBits, bitsOf]
theorem r_or (hl : SlD dfs n L a) (hx : val L x = some (.int k i)) (hy : val L y = some (.int k j)) : Gives P a ⟨dst, .binOp .or t x y u, T, pos, aft, g⟩ w (.int k (bitsOf .or k i j)) w := by
  simp [Gives, execOp, hl.ev hx, hl.ev hy, eqGuard, binOp, Op.intBits, bitsOf]
theorem r_xor (hl : SlD dfs n L a) (hx : val L x = some (.int k i)) (hy : val L y = some (.int k j)) : Gives P a ⟨dst, .binOp .xor t x y u, T, pos, aft, g⟩ w (.int k (bitsOf .xor k i j)) w := by
  simp [Gives, execOp, hl.ev hx, hl.ev hy, eqGuard, binOp, Op.intBits, bitsOf]
theorem r_andNot (hl : SlD dfs n L a) (hx : val L x = some (.int k i)) (hy : val L y = some (.int k j)) : Gives P a ⟨dst, .binOp .andNot t x y u, T, pos, aft, g⟩ w (.int k (bitsOf .andNot k i j)) w := by
  simp [Gives, execOp, hl.ev hx, hl.ev hy, eqGuard, binOp, Op.intBits, bitsOf]
theorem r_shl {k' : IntKind} (hl : SlD dfs n L a) (hx : val L x = some (.int k i)) (hy : val L y = some (.int k' j)) (h : 0 ≤ j) : Gives P a ⟨dst, .binOp .shl t x y u, T, pos, aft, g⟩ w (.int k (k.wrap (i * 2 ^ (min j.toNat k.bits)))) w := by
  simp [Gives, execOp, hl.ev hx, hl.ev hy, eqGuard, binOp, Op.shift, show ¬ j < 0 by omega]
theorem r_shr {k' : IntKind} (hl : SlD dfs n L a) (hx : val L x = some (.int k i)) (hy : val L y = some (.int k' j)) (h : 0 ≤ j) : Gives P a ⟨dst, .binOp .shr t x y u, T, pos, aft, g⟩ w (.int k (i.fdiv (2 ^ (min j.toNat k.bits)))) w := by
  simp [Gives, execOp, hl.ev hx, hl.ev hy, eqGuard, binOp, Op.shift, show ¬ j < 0 by omega]
theorem r_conv {s d : TypeId} {k' : IntKind} {ds : TypeDesc} (hl : SlD dfs n L a) (hx : val L x = some (.int k i)) (hs : P.underlying s = some ds) (hd : P.underlying d = some (.int k')) (hf : Fits k' i) :
    Gives P a ⟨dst, .convert s d x, T, pos, aft, g⟩ w (.int k' i) w := by
  simp [Gives, execOp, hl.ev hx, convert, run_underlying hs, run_underlying hd, Conv.intToInt, wrap_fits hf]
theorem r_convW {s d : TypeId} {k' : IntKind} {ds : TypeDesc} (hl : SlD dfs n L a) (hx : val L x = some (.int k i)) (hs : P.underlying s = some ds) (hd : P.underlying d = some (.int k')) :
    Gives P a ⟨dst, .convert s d x, T, pos, aft, g⟩ w (.int k' (k'.wrap i)) w := by
  simp [Gives, execOp, hl.ev hx, convert, run_underlying hs, run_underlying hd, Conv.intToInt]
end arith
end ops
/-! ## addresses and memory -/
def fieldOk (P : Program) (s : TypeId) (f off : Nat) : Bool :=
  match P.underlying s with
  | some (.struct fs) => match fs[f]? with
    | some fld => match P.info? fld.type with
      | some i => !(i.size == 0) && fld.offset == off
      | none => false
    | none => false
  | _ => false
def arrOk (P : Program) (t : TypeId) (len size : Nat) : Bool :=
  match P.underlying t with
  | some (.array l e) => l == len && (match P.info? e with | some i => i.size == size | none => false)
  | _ => false
def slcOk (P : Program) (t : TypeId) (size : Nat) : Bool :=
  match P.underlying t with
  | some (.slice e) => (match P.info? e with | some i => i.size == size | none => false)
  | _ => false
/-- one cell: no struct, no array -/
def oneOk (P : Program) (t : TypeId) : Bool :=
  (match P.underlying t with | some (.struct _) | some (.array _ _) | none => false | _ => true) && (match P.info? t with | some i => i.size == 1 | none => false)
def aggOk (P : Program) (t : TypeId) (m : Nat) : Bool :=
  (match P.underlying t with | some (.struct _) | some (.array _ _) => true | _ => false) && (match P.info? t with | some i => i.size == m | none => false)

theorem add_off (b o m : Nat) : (⟨b, o, none⟩ : Addr).add m = ⟨b, o + m, none⟩ := by
  unfold Addr.add; split <;> simp_all

section ops
variable {P : Program} {n : Nat} {L : List (Nat × Value)} {a : Act} {w : World} {T : TypeId} {pos : String} {aft : Array Edge} {g : Option (Nat × Bool)} {dst : Option Nat}

theorem fieldOk_spec {s : TypeId} {f off : Nat} (h : fieldOk P s f off = true) : ∃ fs fld i, P.underlying s = some (.struct fs) ∧ fs[f]? = some fld ∧ P.info? fld.type = some i ∧ i.size ≠ 0 ∧ fld.offset = off := by
  unfold fieldOk at h
  split at h
  · rename_i fs hu
    split at h
    · rename_i fld hf
      split at h
      · rename_i i hi
        simp only [Bool.and_eq_true, Bool.not_eq_true', beq_eq_false_iff_ne, beq_iff_eq] at h
        exact ⟨fs, fld, i, hu, hf, hi, h.1, h.2⟩
      · cases h
    · cases h
  · cases h

theorem r_field {x : Operand} {s : TypeId} {f off b o : Nat} (hl : SlD dfs n L a) (hx : val L x = some (.pointer (some ⟨b, o, none⟩))) (hf : fieldOk P s f off = true) :
    Gives P a ⟨dst, .fieldAddr s x f, T, pos, aft, g⟩ w (.pointer (some ⟨b, o + off, none⟩)) w := by
  obtain ⟨fs, fld, i, h1, h2, h3, h4, h5⟩ := fieldOk_spec hf
  subst h5
  simp [Gives, execOp, hl.ev hx, Instr.fieldAt, run_underlying h1, h2, Instr.sureAddr, fieldPlace, sizeOf, typeInfo, h3, h4, add_off]

theorem arrOk_spec {t : TypeId} {len size : Nat} (h : arrOk P t len size = true) : ∃ e i, P.underlying t = some (.array len e) ∧ P.info? e = some i ∧ i.size = size := by
  unfold arrOk at h
  split at h
  · rename_i l e hu
    simp only [Bool.and_eq_true, beq_iff_eq] at h
    obtain ⟨rfl, h⟩ := h
    split at h
    · rename_i i hi; exact ⟨e, i, hu, hi, by simpa using h⟩
    · cases h
  · cases h
theorem slcOk_spec {t : TypeId} {size : Nat} (h : slcOk P t size = true) : ∃ e i, P.underlying t = some (.slice e) ∧ P.info? e = some i ∧ i.size = size := by
  unfold slcOk at h
  split at h
  · rename_i e hu
    split at h
    · rename_i i hi; exact ⟨e, i, hu, hi, by simpa using h⟩
    · cases h
  · cases h

/-- 'p[i]' of an array behind a pointer -/
theorem r_indexA {x y : Operand} {t : TypeId} {len size b o : Nat} {k : IntKind} {i : Int} (hl : SlD dfs n L a) (hx : val L x = some (.pointer (some ⟨b, o, none⟩))) (hy : val L y = some (.int k i))
    (ht : arrOk P t len size = true) (h0 : 0 ≤ i) (h1 : i < len) {q : Nat} (hq : i.toNat = q) :
    Gives P a ⟨dst, .indexAddr t x y, T, pos, aft, g⟩ w (.pointer (some ⟨b, o + q * size, none⟩)) w := by
  subst hq
  obtain ⟨e, inf, h2, h3, rfl⟩ := arrOk_spec ht
  simp [Gives, execOp, hl.ev hx, hl.ev hy, Instr.indexAt, asIntOf, run_underlying h2, Instr.sureAddr, sizeOf, typeInfo, h3, h0, h1, add_off]
/-- 's[i]' of a slice -/
theorem r_indexS {x y : Operand} {t : TypeId} {len cap size b o : Nat} {k : IntKind} {i : Int} (hl : SlD dfs n L a) (hx : val L x = some (.slice (some ⟨b, o, none⟩) len cap)) (hy : val L y = some (.int k i))
    (ht : slcOk P t size = true) (h0 : 0 ≤ i) (h1 : i < len) {q : Nat} (hq : i.toNat = q) :
    Gives P a ⟨dst, .indexAddr t x y, T, pos, aft, g⟩ w (.pointer (some ⟨b, o + q * size, none⟩)) w := by
  subst hq
  obtain ⟨e, inf, h2, h3, rfl⟩ := slcOk_spec ht
  simp [Gives, execOp, hl.ev hx, hl.ev hy, Instr.indexAt, asIntOf, run_underlying h2, sizeOf, typeInfo, h3, h0, h1, add_off]
theorem r_lenS {x : Operand} {t : TypeId} {p : Option Addr} {len cap size : Nat} (hl : SlD dfs n L a) (hx : val L x = some (.slice p len cap)) (ht : slcOk P t size = true) :
    Gives P a ⟨dst, .call { callee := .builtin .len, args := #[x], argTypes := #[t] }, T, pos, aft, g⟩ w (.int .i64 len) w := by
  obtain ⟨e, inf, h2, h3, rfl⟩ := slcOk_spec ht
  simp [Gives, execOp, resolve, invoke, builtin, hl.ev hx, Builtin.len_, run_underlying h2, goInt]
theorem r_capS {x : Operand} {t : TypeId} {p : Option Addr} {len cap size : Nat} (hl : SlD dfs n L a) (hx : val L x = some (.slice p len cap)) (ht : slcOk P t size = true) :
    Gives P a ⟨dst, .call { callee := .builtin .cap, args := #[x], argTypes := #[t] }, T, pos, aft, g⟩ w (.int .i64 cap) w := by
  obtain ⟨e, inf, h2, h3, rfl⟩ := slcOk_spec ht
  simp [Gives, execOp, resolve, invoke, builtin, hl.ev hx, Builtin.cap_, run_underlying h2, goInt]
theorem r_lenStr {x : Operand} {t : TypeId} {s : ByteArray} (hl : SlD dfs n L a) (hx : val L x = some (.string s)) (ht : P.underlying t = some .string) :
    Gives P a ⟨dst, .call { callee := .builtin .len, args := #[x], argTypes := #[t] }, T, pos, aft, g⟩ w (.int .i64 s.size) w := by
  simp [Gives, execOp, resolve, invoke, builtin, hl.ev hx, Builtin.len_, run_underlying ht, goInt]

/-! loads -/
theorem run_load1 {b o : Nat} {c : Array Value} {T' : TypeId} {fr : Nat × Nat} {v : Value} (hm : w.heap[b]? = some (.cells c T' fr)) (hc : c[o]? = some v) :
    (load ⟨b, o, none⟩).run P w = .ok v w := by
  simp [load, Sem.run, World.cell?, hm, hc]

theorem oneOk_run {t : TypeId} (h : oneOk P t = true) : (isAgg t).run P w = .ok false w ∧ (sizeOf t).run P w = .ok 1 w := by
  unfold oneOk at h
  simp only [Bool.and_eq_true] at h
  obtain ⟨h1, h2⟩ := h
  cases hu : P.underlying t with
  | none => rw [hu] at h1; simp at h1
  | some d =>
    cases hi : P.info? t with
    | none => rw [hi] at h2; simp at h2
    | some i =>
      rw [hi] at h2; rw [hu] at h1
      refine ⟨?_, by simp [sizeOf, typeInfo, hi]; simpa using h2⟩
      unfold isAgg
      rw [Sem.run_bind, run_underlying hu w]
      cases d <;> simp_all
theorem aggOk_run {t : TypeId} {m : Nat} (h : aggOk P t m = true) : (isAgg t).run P w = .ok true w ∧ (sizeOf t).run P w = .ok m w := by
  unfold aggOk at h
  simp only [Bool.and_eq_true] at h
  obtain ⟨h1, h2⟩ := h
  cases hu : P.underlying t with
  | none => rw [hu] at h1; simp at h1
  | some d =>
    cases hi : P.info? t with
    | none => rw [hi] at h2; simp at h2
    | some i =>
      rw [hi] at h2; rw [hu] at h1
      refine ⟨?_, by simp [sizeOf, typeInfo, hi]; simpa using h2⟩
      unfold isAgg
      rw [Sem.run_bind, run_underlying hu w]
      cases d <;> simp_all

/-- a load of one cell -/
theorem r_load {x : Operand} {t : TypeId} {b o : Nat} {c : Array Value} {T' : TypeId} {fr : Nat × Nat} {v : Value} (hl : SlD dfs n L a) (hx : val L x = some (.pointer (some ⟨b, o, none⟩))) (ht : oneOk P t = true)
    (hm : w.heap[b]? = some (.cells c T' fr)) (hc : c[o]? = some v) : Gives P a ⟨dst, .load t x, T, pos, aft, g⟩ w v w := by
  have hcell : w.cell? ⟨b, o, none⟩ = some v := by simp [World.cell?, hm, hc]
  simp [Gives, execOp, hl.ev hx, Instr.loadAt, Instr.sureAddr, loadVar, (oneOk_run ht).1, hcell]
theorem r_loadC {x : Operand} {t : TypeId} {b o : Nat} {l : List Value} {T' : TypeId} {v : Value} {F : List (Nat × Obj)} (hl : SlD dfs n L a) (hx : val L x = some (.pointer (some ⟨b, o, none⟩))) (ht : oneOk P t = true)
    (hM : Mem F w) {G : List (Nat × Obj)} (hf : Find F b (C l T') G) (hc : l[o]? = some v) : Gives P a ⟨dst, .load t x, T, pos, aft, g⟩ w v w :=
  r_load hl hx ht (hM b _ hf.mem) (by simpa [C] using hc)

theorem r_loadL {x : Operand} {t : TypeId} {b o : Nat} {c : List Value} {T' : TypeId} {fr : Nat × Nat} {v : Value} (hl : SlD dfs n L a) (hx : val L x = some (.pointer (some ⟨b, o, none⟩))) (ht : oneOk P t = true)
    (hm : w.heap[b]? = some (.cells ⟨c⟩ T' fr)) (hc : c[o]? = some v) : Gives P a ⟨dst, .load t x, T, pos, aft, g⟩ w v w := r_load hl hx ht hm (by simpa using hc)
theorem run_loadCellsC {b o : Nat} {l : List Value} {T' : TypeId} {fr : Nat × Nat} {cs : List Value} (hm : w.heap[b]? = some (.cells ⟨l⟩ T' fr)) (hc : (l.drop o).take cs.length = cs) :
    (loadCells ⟨b, o, none⟩ cs.length).run P w = .ok cs.toArray w := by
  refine run_loadCells_list w _ cs (fun j v hv => ?_)
  rw [add_off]
  simp only [World.cell?, hm]
  rw [← hc] at hv
  rw [List.getElem?_take] at hv
  split at hv
  · simpa using hv
  · cases hv

/-- a load of a struct or an array -/
theorem r_loadA {x : Operand} {t : TypeId} {m b o : Nat} {l : List Value} {T' : TypeId} {fr : Nat × Nat} {cs : List Value} (hl : SlD dfs n L a) (hx : val L x = some (.pointer (some ⟨b, o, none⟩))) (ht : aggOk P t m = true)
    (hm : w.heap[b]? = some (.cells ⟨l⟩ T' fr)) (hc : (l.drop o).take m = cs) (hn : cs.length = m) : Gives P a ⟨dst, .load t x, T, pos, aft, g⟩ w (.agg ⟨cs⟩) w := by
  subst hn
  simp [Gives, execOp, hl.ev hx, Instr.loadAt, Instr.sureAddr, loadVar, (aggOk_run ht).1, (aggOk_run ht).2, run_loadCellsC hm hc]
theorem r_loadCA {x : Operand} {t : TypeId} {m b o : Nat} {l : List Value} {T' : TypeId} {cs : List Value} {F : List (Nat × Obj)} (hl : SlD dfs n L a) (hx : val L x = some (.pointer (some ⟨b, o, none⟩))) (ht : aggOk P t m = true)
    (hM : Mem F w) {G : List (Nat × Obj)} (hf : Find F b (C l T') G) (hc : (l.drop o).take m = cs) (hn : cs.length = m) : Gives P a ⟨dst, .load t x, T, pos, aft, g⟩ w (.agg ⟨cs⟩) w :=
  r_loadA hl hx ht (hM b _ hf.mem) hc hn

/-! stores -/
def setL (l : List Value) (o : Nat) (vs : List Value) : List Value := l.take o ++ vs ++ l.drop (o + vs.length)

theorem heap_setRow {b : Nat} {c cs : Array Value} {T' : TypeId} {fr : Nat × Nat} (hm : w.heap[b]? = some (.cells c T' fr)) : (w.setRow b cs).heap = w.heap.setIfInBounds b (.cells cs T' fr) := by
  have hb : b < w.heap.size := (Array.getElem?_eq_some_iff.1 hm).1
  simp only [World.setRow]
  apply Array.ext
  · simp
  · intro j h1 h2
    have hj : j < w.heap.size := by simpa using h1
    rw [Array.getElem_modify, Array.getElem_setIfInBounds hj]
    by_cases e : b = j
    · subst e
      have : w.heap[b] = .cells c T' fr := by simpa [Array.getElem?_eq_getElem hb] using hm
      simp [this]
    · simp [e]

theorem run_storeC {b o : Nat} {l vs : List Value} {T' : TypeId} (hm : w.heap[b]? = some (C l T')) (hlen : o + vs.length ≤ l.length) (h1 : vs.all (·.oneCell') = true) :
    (storeCells ⟨b, o, none⟩ vs).run P w = .ok () (w.setRow b ⟨setL l o vs⟩) := by
  have := run_storeCells_at (P := P) b o T' vs 0 ⟨l⟩ w hm (by simpa using hlen) (fun v hv => by simpa using List.all_eq_true.1 h1 v hv)
  simpa [setL] using this

/-- a store of one cell -/
theorem r_store {x y : Operand} {t : TypeId} {b o : Nat} {l : List Value} {T' : TypeId} {v : Value} (hl : SlD dfs n L a) (hx : val L x = some (.pointer (some ⟨b, o, none⟩))) (hy : val L y = some v) (ht : oneOk P t = true)
    (hm : w.heap[b]? = some (C l T')) (hlen : o < l.length) (h1 : v.oneCell' = true) : Does P a ⟨none, .store t x y, T, pos, aft, g⟩ w (w.setRow b ⟨setL l o [v]⟩) := by
  have hc : v.cells = #[v] := by cases v <;> simp_all [Value.cells, Value.oneCell']
  have hr := run_storeC (P := P) (vs := [v]) hm (Nat.succ_le_of_lt hlen) (by simpa using h1)
  simp [Does, execOp, hl.ev hx, hl.ev hy, Instr.storeAt, Instr.sureAddr, storeVar, (oneOk_run ht).2, hc, hr]
/-- a store of a struct or an array -/
theorem r_storeA {x y : Operand} {t : TypeId} {m b o : Nat} {l cs : List Value} {T' : TypeId} (hl : SlD dfs n L a) (hx : val L x = some (.pointer (some ⟨b, o, none⟩))) (hy : val L y = some (.agg ⟨cs⟩)) (ht : aggOk P t m = true)
    (hm : w.heap[b]? = some (C l T')) (hn : cs.length = m) (hlen : o + m ≤ l.length) (h1 : cs.all (·.oneCell') = true) : Does P a ⟨none, .store t x y, T, pos, aft, g⟩ w (w.setRow b ⟨setL l o cs⟩) := by
  subst hn
  have hr := run_storeC (P := P) (vs := cs) hm hlen h1
  simp [Does, execOp, hl.ev hx, hl.ev hy, Instr.storeAt, Instr.sureAddr, storeVar, (aggOk_run ht).2, Value.cells, hr]

/-! new blocks -/
def zeroOk (P : Program) (t : TypeId) (z : Value) : Prop := (P.info? t).map (·.zero) = some (some z)
theorem run_zero {t : TypeId} {z : Value} (h : zeroOk P t z) : (zeroValue t).run P w = .ok z w := by
  unfold zeroOk at h
  cases hi : P.info? t with
  | none => simp [hi] at h
  | some i =>
    have : i.zero = some z := by simpa [hi] using h
    simp [zeroValue, typeInfo, hi, this]
theorem r_alloc {t : TypeId} {z : Value} (hz : zeroOk P t z) : Gives P a ⟨dst, .alloc t, T, pos, aft, g⟩ w (.pointer (some ⟨w.heap.size, 0, none⟩)) (w.alloc (.cells z.cells t)) := by
  simp [Gives, execOp, Instr.alloc, run_zero hz, newVar, newRow]
theorem r_box {t : TypeId} {x : Operand} {v : Value} (hl : SlD dfs n L a) (hx : val L x = some v) : Gives P a ⟨dst, .box t x, T, pos, aft, g⟩ w (.pointer (some ⟨w.heap.size, 0, none⟩)) (w.alloc (.cells v.cells t)) := by
  simp [Gives, execOp, Instr.box, hl.ev hx, newVar, newRow]
end ops

section regions
variable {P : Program} {n : Nat} {L : List (Nat × Value)} {a : Act} {w : World} {T : TypeId} {pos : String} {aft : Array Edge} {g : Option (Nat × Bool)}
variable {ops : Array Oper} {Q : Exit → Act → World → Prop} {K : Act → World → Prop} {D : List Nat} {w0 : World} {F G : List (Nat × Obj)}

theorem w_load {d : Nat} {x : Operand} {t : TypeId} {b o : Nat} {l : List Value} {T' : TypeId} {v : Value} (hl : SlD dfs n L a) (hh : Has D w0 F w) (hd : Nat.blt d n = true) (hg : GuardOk ops L g) (ht : oneOk P t = true)
    (hx : val L x = some (.pointer (some ⟨b, o, none⟩))) (hf : Find F b (C l T') G) (hc : l[o]? = some v) (k : ∀ a', SlD dfs n ((d, v) :: L) a' → K a' w) :
    OpW P ops Q ⟨some d, .load t x, T, pos, aft, g⟩ K a w :=
  wl_val hl hd hg (r_loadC hl hx ht hh.mem hf hc) k
theorem w_loadA {d : Nat} {x : Operand} {t : TypeId} {m b o : Nat} {l : List Value} {T' : TypeId} {cs : List Value} (hl : SlD dfs n L a) (hh : Has D w0 F w) (hd : Nat.blt d n = true) (hg : GuardOk ops L g) (ht : aggOk P t m = true)
    (hx : val L x = some (.pointer (some ⟨b, o, none⟩))) (hf : Find F b (C l T') G) (hc : (l.drop o).take m = cs) (hn : cs.length = m) (k : ∀ a', SlD dfs n ((d, .agg ⟨cs⟩) :: L) a' → K a' w) :
    OpW P ops Q ⟨some d, .load t x, T, pos, aft, g⟩ K a w :=
  wl_val hl hd hg (r_loadCA hl hx ht hh.mem hf hc hn) k
theorem w_store {x y : Operand} {t : TypeId} {b o : Nat} {l : List Value} {T' : TypeId} {v : Value} (hl : SlD dfs n L a) (hh : Has D w0 F w) (hg : GuardOk ops L g) (ht : oneOk P t = true)
    (hx : val L x = some (.pointer (some ⟨b, o, none⟩))) (hy : val L y = some v) (hf : Find F b (C l T') G) (hlen : o < l.length) (h1 : v.oneCell' = true) {l' : List Value} (hset : setL l o [v] = l')
    (k : ∀ w', Has D w0 ((b, C l' T') :: G) w' → K a w') :
    OpW P ops Q ⟨none, .store t x y, T, pos, aft, g⟩ K a w :=
  have hm := hh.mem b _ hf.mem
  wl_unit hl hg (r_store hl hx hy ht hm hlen h1) (k _ (hset ▸ hh.write hf (heap_setRow hm) rfl rfl rfl))
theorem w_storeA {x y : Operand} {t : TypeId} {m b o : Nat} {l cs : List Value} {T' : TypeId} (hl : SlD dfs n L a) (hh : Has D w0 F w) (hg : GuardOk ops L g) (ht : aggOk P t m = true)
    (hx : val L x = some (.pointer (some ⟨b, o, none⟩))) (hy : val L y = some (.agg ⟨cs⟩)) (hf : Find F b (C l T') G) (hn : cs.length = m) (hlen : o + m ≤ l.length) (h1 : cs.all (·.oneCell') = true) {l' : List Value} (hset : setL l o cs = l')
    (k : ∀ w', Has D w0 ((b, C l' T') :: G) w' → K a w') :
    OpW P ops Q ⟨none, .store t x y, T, pos, aft, g⟩ K a w :=
  have hm := hh.mem b _ hf.mem
  wl_unit hl hg (r_storeA hl hx hy ht hm hn hlen h1) (k _ (hset ▸ hh.write hf (heap_setRow hm) rfl rfl rfl))
theorem w_alloc {d : Nat} {t : TypeId} {z : Value} {zl : List Value} (hl : SlD dfs n L a) (hh : Has D w0 F w) (hd : Nat.blt d n = true) (hg : GuardOk ops L g) (hz : zeroOk P t z) (hc : z.cells = ⟨zl⟩)
    (k : ∀ b a' w', SlD dfs n ((d, .pointer (some ⟨b, 0, none⟩)) :: L) a' → Has D w0 ((b, C zl t) :: F) w' → K a' w') :
    OpW P ops Q ⟨some d, .alloc t, T, pos, aft, g⟩ K a w :=
  wl_val hl hd hg (r_alloc hz) fun a' hl' => k _ a' _ hl' (by rw [hc]; exact hh.alloc (C zl t))
theorem w_box {d : Nat} {x : Operand} {t : TypeId} {v : Value} {zl : List Value} (hl : SlD dfs n L a) (hh : Has D w0 F w) (hd : Nat.blt d n = true) (hg : GuardOk ops L g) (hx : val L x = some v) (hc : v.cells = ⟨zl⟩)
    (k : ∀ b a' w', SlD dfs n ((d, .pointer (some ⟨b, 0, none⟩)) :: L) a' → Has D w0 ((b, C zl t) :: F) w' → K a' w') :
    OpW P ops Q ⟨some d, .box t x, T, pos, aft, g⟩ K a w :=
  wl_val hl hd hg (r_box hl hx) fun a' hl' => k _ a' _ hl' (by rw [hc]; exact hh.alloc (C zl t))
theorem w_nil (h : Q .normal a w) : wpList P ops Q [] a w := h

/-- a Bool in a slot, parted -/
theorem sl_split {X : Prop} {t : Nat} {p : Bool} (hl : SlD dfs n L a) (ht : look L t = some (.bool p)) (k1 : p = true → SlD dfs n ((t, .bool true) :: L) a → X) (k2 : p = false → SlD dfs n ((t, .bool false) :: L) a → X) : X := by
  cases p
  · exact k2 rfl (hl.add hl ht)
  · exact k1 rfl (hl.add hl ht)
end regions

section control
variable {P : Program} {n : Nat} {L : List (Nat × Value)} {a : Act} {w : World} {Q : Exit → Act → World → Prop}

theorem c_condT {c : Operand} {x y : Code} (hl : SlD dfs n L a) (hc : val L c = some (.bool true)) (h : x.wp P Q a w) : (Code.cond c x y).wp P Q a w := wp_cond_true (hl.ev hc) h
theorem c_condF {c : Operand} {x y : Code} (hl : SlD dfs n L a) (hc : val L c = some (.bool false)) (h : y.wp P Q a w) : (Code.cond c x y).wp P Q a w := wp_cond_false (hl.ev hc) h
theorem c_cond {c : Operand} {x y : Code} {p : Bool} (hl : SlD dfs n L a) (hc : val L c = some (.bool p)) (h1 : p = true → x.wp P Q a w) (h2 : p = false → y.wp P Q a w) : (Code.cond c x y).wp P Q a w :=
  wp_cond_split (hl.ev hc) h1 h2
theorem c_region {id : Nat} {os : List Oper} (h : wpList P ⟨os⟩ Q os a w) : (Code.region id ⟨os⟩ false).wp P Q a w := wp_region_lit h
theorem c_seq {x y : Code} (h : x.wp P (Exit.then (y.wp P Q) Q) a w) : (Code.seq x y).wp P Q a w := wp_seq h

/-- a loop: the invariant by a ghost 'x', the measure 'm x' -/
theorem c_loop {α : Type} {c : Code} (m : α → Nat) (I : α → Act → World → Prop) (x0 : α) (h0 : I x0 a w)
    (round : ∀ x a w, I x a w → c.wp P (Exit.then (fun a' w' => ∃ x', m x' < m x ∧ I x' a' w') Q) a w) : (Code.loop c).wp P Q a w := by
  intro b k cs
  have key : ∀ N x a w, m x = N → I x a w →
      ∃ e a' w', Q e a' w' ∧ Arrives P (lone (b.at a (.code c :: .inLoop c :: k)) cs w) b k cs e a' w' := by
    intro N
    induction N using Nat.strongRecOn with
    | _ N ih =>
      intro x a w hn hI
      obtain ⟨e, a₁, w₁, hq, harr⟩ := round x a w hI b (.inLoop c :: k) cs
      cases e with
      | normal =>
        obtain ⟨x', hlt, hI₁⟩ := hq
        obtain ⟨e₂, a₂, w₂, hq₂, harr₂⟩ := ih (m x') (hn ▸ hlt) x' a₁ w₁ rfl hI₁
        exact ⟨e₂, a₂, w₂, hq₂, .of_steps (Steps.trans harr (.one step_inLoop)) harr₂⟩
      | exit id => exact ⟨_, a₁, w₁, hq, .pass (x := .inLoop c) rfl (fun _ _ => .inl (by simp)) harr⟩
      | goto l => exact ⟨_, a₁, w₁, hq, .pass (x := .inLoop c) rfl (fun _ _ => .inl (by simp)) harr⟩
      | ret => exact ⟨_, a₁, w₁, hq, .pass (x := .inLoop c) rfl (fun _ _ => .inl (by simp)) harr⟩
      | panic ch => exact ⟨_, a₁, w₁, hq, .pass (x := .inLoop c) rfl (fun _ _ => .inl (by simp)) harr⟩
      | outgrown => exact ⟨_, a₁, w₁, hq, .pass (x := .inLoop c) rfl (fun _ _ => .inl (by simp)) harr⟩
  obtain ⟨e, a', w', hq, harr⟩ := key _ x0 a w rfl h0
  exact ⟨e, a', w', hq, .of_steps (.one step_loop) harr⟩
end control

/-! ## calls -/
/-- what a call gives: 'R v F'' of the value and of the blocks that it hands back (changed, or new) -/
def Post (D : List Nat) (w0 : World) (R : Value → List (Nat × Obj) → Prop) : Ending → World → Prop
  | .returned v, w' => ∃ F', R v F' ∧ Has D w0 F' w'
  | _, _ => False

/-- 'f' called with these arguments in a world of 'Pre' where these blocks lie: -/
def SpK (P : Program) (f : FuncId) (args : Array Value) (Pre : World → Prop) (F : List (Nat × Obj)) (R : Value → List (Nat × Obj) → Prop) : Prop :=
  ∀ w, Pre w → Mem F w → (F.map Prod.fst).Nodup → Calls P f args w (Post (F.map Prod.fst) w R)
def Any (_ : World) : Prop := True
def Sp (P : Program) (f : FuncId) (args : Array Value) (F : List (Nat × Obj)) (R : Value → List (Nat × Obj) → Prop) : Prop := SpK P f args Any F R

/-- F holds the blocks F', and then G -/
structure Keeps (F F' G : List (Nat × Obj)) : Prop where
  perm : F.Perm (F' ++ G)
theorem keeps_nil {F : List (Nat × Obj)} : Keeps F [] F := ⟨List.Perm.refl _⟩
theorem keeps_cons {F F' G G1 : List (Nat × Obj)} {b : Nat} {o o' : Obj} (h : Find F b o G1) (e : o = o') (h' : Keeps G1 F' G) : Keeps F ((b, o') :: F') G := by
  subst e; exact ⟨List.Perm.trans h.perm (List.Perm.cons _ h'.perm)⟩
section calls
variable {P : Program} {n : Nat} {L : List (Nat × Value)} {a : Act} {w : World} {T : TypeId} {pos : String} {aft : Array Edge} {g : Option (Nat × Bool)}
variable {ops : Array Oper} {Q : Exit → Act → World → Prop} {K : Act → World → Prop} {D : List Nat} {w0 : World} {F G : List (Nat × Obj)}

def vals (L : List (Nat × Value)) : List Operand → Option (List Value)
  | [] => some []
  | x :: xs => match val L x, vals L xs with
    | some v, some vs => some (v :: vs)
    | _, _ => none
theorem SlD.evs (hl : SlD dfs n L a) : ∀ (xs : List Operand) (vs : List Value), vals L xs = some vs → xs.map a.eval = vs
  | [], vs, h => by simp [vals] at h; simp [h]
  | x :: xs, vs, h => by
    simp only [vals] at h
    split at h
    · rename_i v vs' h1 h2
      simp only [Option.some.injEq] at h
      subst h
      simp [hl.ev h1, hl.evs xs vs' h2]
    · cases h

def callable (P : Program) (f : FuncId) : Bool :=
  match P.funcs[f]? with
  | some fn => !(fn.name == "runtime.NumGoroutine") && fn.body.isSome
  | none => false

theorem run_call {f : FuncId} {xs : List Operand} {vs : List Value} {fo : Operand} {cap : Array Value} {ts : Array TypeId} {dst : Option Nat} (hl : SlD dfs n L a) (hf : val L fo = some (.func (.func f) #[] cap)) (hc : callable P f = true) (hv : vals L xs = some vs) :
    (execOp a.eval ⟨dst, .call { callee := .value fo, args := ⟨xs⟩, argTypes := ts }, T, pos, aft, g⟩).run P w = .ok (.enter f (⟨vs⟩ ++ cap)) w := by
  unfold callable at hc
  have he := hl.evs xs vs hv
  split at hc
  · rename_i fn hfn
    simp only [Bool.and_eq_true, Bool.not_eq_true', beq_eq_false_iff_ne] at hc
    obtain ⟨c, hb⟩ := Option.isSome_iff_exists.1 hc.2
    have hm : (Array.map a.eval ⟨xs⟩ : Array Value) = ⟨vs⟩ := by
      apply Array.ext'
      simp [he]
    simp [execOp, resolve, hl.ev hf, Deferred.ofValue, invoke, callFunc, hfn, hc.1, hb, hm]
  · cases hc

theorem Has.start {F : List (Nat × Obj)} (hm : Mem F w) (hn : (F.map Prod.fst).Nodup) : Has (F.map Prod.fst) w F w :=
  ⟨Frm.refl _ _, hm, hn, fun _ _ m => .inl (List.mem_map.2 ⟨_, m, rfl⟩)⟩

theorem Has.left {A B : List (Nat × Obj)} (h : Has D w0 (A ++ B) w) : Mem A w ∧ (A.map Prod.fst).Nodup := by
  refine ⟨fun b o m => h.mem b o (List.mem_append_left _ m), ?_⟩
  have := h.nodup
  rw [List.map_append, List.nodup_append] at this
  exact this.1

/-- a call by its contract: 'hp': the blocks that the contract asks for, then the rest -/
theorem w_call {d : Nat} {f : FuncId} {xs : List Operand} {vs : List Value} {fo : Operand} {cap : Array Value} {ts : Array TypeId} {Fn : List (Nat × Obj)} {R : Value → List (Nat × Obj) → Prop}
    (hl : SlD dfs n L a) (hh : Has D w0 F w) (hd : Nat.blt d n = true) (hg : GuardOk ops L g) (hf : val L fo = some (.func (.func f) #[] cap)) (hc : callable P f = true) (hv : vals L xs = some vs)
    {Pre : World → Prop} (hs : SpK P f (⟨vs⟩ ++ cap) Pre Fn R) (hp : Keeps F Fn G) (hpre : Pre w)
    (k : ∀ v F' a' w', R v F' → SlD dfs n ((d, v) :: L) a' → Has D w0 (F' ++ G) w' → K a' w') :
    OpW P ops Q ⟨some d, .call { callee := .value fo, args := ⟨xs⟩, argTypes := ts }, T, pos, aft, g⟩ K a w := by
  have hh' := hh.perm hp.perm
  unfold OpW
  rw [if_pos (wanted_ok hl (o := ⟨some d, .call { callee := .value fo, args := ⟨xs⟩, argTypes := ts }, T, pos, aft, g⟩) hg)]
  left
  unfold Oper.wp
  rw [run_call hl hf hc hv]
  show Calls P f _ w _
  refine (hs w hpre hh'.left.1 hh'.left.2).mono fun e w' he => ?_
  cases e with
  | returned v =>
    obtain ⟨F', hR, hhas⟩ := he
    exact k v F' _ w' hR (hl.put hd v) (hh'.call (fun b hb => hb) hhas)
  | panicked c => exact he.elim
  | outgrown => exact he.elim
theorem w_call0 {f : FuncId} {xs : List Operand} {vs : List Value} {fo : Operand} {cap : Array Value} {ts : Array TypeId} {Fn : List (Nat × Obj)} {R : Value → List (Nat × Obj) → Prop}
    (hl : SlD dfs n L a) (hh : Has D w0 F w) (hg : GuardOk ops L g) (hf : val L fo = some (.func (.func f) #[] cap)) (hc : callable P f = true) (hv : vals L xs = some vs)
    {Pre : World → Prop} (hs : SpK P f (⟨vs⟩ ++ cap) Pre Fn R) (hp : Keeps F Fn G) (hpre : Pre w)
    (k : ∀ v F' w', R v F' → Has D w0 (F' ++ G) w' → K a w') :
    OpW P ops Q ⟨none, .call { callee := .value fo, args := ⟨xs⟩, argTypes := ts }, T, pos, aft, g⟩ K a w := by
  have hh' := hh.perm hp.perm
  unfold OpW
  rw [if_pos (wanted_ok hl (o := ⟨none, .call { callee := .value fo, args := ⟨xs⟩, argTypes := ts }, T, pos, aft, g⟩) hg)]
  left
  unfold Oper.wp
  rw [run_call hl hf hc hv]
  show Calls P f _ w _
  refine (hs w hpre hh'.left.1 hh'.left.2).mono fun e w' he => ?_
  cases e with
  | returned v =>
    obtain ⟨F', hR, hhas⟩ := he
    exact k v F' w' hR (hh'.call (fun b hb => hb) hhas)
  | panicked c => exact he.elim
  | outgrown => exact he.elim

/-! entering and leaving a function -/
def slotsFrom : Nat → List Value → List (Nat × Value)
  | _, [] => []
  | i, v :: vs => (i, v) :: slotsFrom (i + 1) vs

theorem look_slotsFrom : ∀ (vs : List Value) (i t : Nat) (v : Value), look (slotsFrom i vs) t = some v → i ≤ t ∧ vs[t - i]? = some v
  | [], _, _, _, h => by simp [slotsFrom, look] at h
  | u :: vs, i, t, v, h => by
    simp only [slotsFrom, look] at h
    cases hb : Nat.beq i t
    · rw [hb] at h
      have hne : i ≠ t := fun e => by subst e; simp at hb
      obtain ⟨h1, h2⟩ := look_slotsFrom vs (i + 1) t v h
      refine ⟨by omega, ?_⟩
      rw [show t - i = (t - (i + 1)) + 1 by omega]
      simpa using h2
    · rw [hb] at h
      have := Nat.eq_of_beq_eq_true hb
      subst this
      simp only [cond_true, Option.some.injEq] at h
      simp [h]

theorem f_enter {f : FuncId} {fn : Func} {c : Code} {args : List Value} {R : Value → List (Nat × Obj) → Prop} {N : Nat} (hf : P.funcs[f]? = some fn) (hb : fn.body = some c) (hN : fn.ntmps = N) (hargs : Nat.ble args.length N = true)
    {Pre : World → Prop} (h : ∀ w0 w a, Pre w0 → Sl N (slotsFrom 0 args) a → Has (F.map Prod.fst) w0 F w → c.wp P (bodyPost P fn (Post (F.map Prod.fst) w0 R)) a w) : SpK P f ⟨args⟩ Pre F R := by
  intro w hpre hm hn
  refine calls_of_wp hf hb (h w w _ hpre ⟨?_, rfl, fun t v hv => ?_⟩ (Has.start hm hn))
  · have := Nat.le_of_ble_eq_true hargs; simp [hN]; omega
  · obtain ⟨_, h2⟩ := look_slotsFrom args 0 t v hv
    simp only [Nat.sub_zero] at h2
    have ht : t < args.length := (List.getElem?_eq_some_iff.1 h2).1
    rw [Array.getElem?_append_left (by simpa using ht)]
    simpa using h2

theorem SlD.tmp (hl : SlD dfs n L a) {t : Nat} {v : Value} (h : look L t = some v) : a.tmps.getD t undef = v := by
  simp [hl.get t v h]

theorem Has.keep {F' : List (Nat × Obj)} (hh : Has D w0 F w) (hp : Keeps F F' G) : Has D w0 F' w := by
  have h := hh.perm hp.perm
  refine ⟨h.frm, fun b o m => h.mem b o (List.mem_append_left _ m), ?_, fun b o m => h.own b o (List.mem_append_left _ m)⟩
  have := h.nodup
  rw [List.map_append, List.nodup_append] at this
  exact this.1

theorem f_ret0 {fn : Func} {R : Value → List (Nat × Obj) → Prop} {F' : List (Nat × Obj)} (hl : Sl n L a) (hh : Has D w0 F w) (hr : fn.results = #[]) (hp : Keeps F F' G) (hR : R (.tuple #[]) F') : bodyPost P fn (Post D w0 R) .ret a w :=
  ⟨hl.defers, .tuple #[], by simp [results, hr], F', hR, hh.keep hp⟩
theorem f_end0 {fn : Func} {R : Value → List (Nat × Obj) → Prop} {F' : List (Nat × Obj)} (hl : Sl n L a) (hh : Has D w0 F w) (hr : fn.results = #[]) (hp : Keeps F F' G) (hR : R (.tuple #[]) F') : bodyPost P fn (Post D w0 R) .normal a w :=
  ⟨hl.defers, .tuple #[], by simp [results, hr], F', hR, hh.keep hp⟩
theorem f_ret1 {fn : Func} {R : Value → List (Nat × Obj) → Prop} {t : Nat} {v : Value} {F' : List (Nat × Obj)} (hl : Sl n L a) (hh : Has D w0 F w) (hr : fn.results = #[.tmp t]) (hv : look L t = some v) (hp : Keeps F F' G) (hR : R v F') : bodyPost P fn (Post D w0 R) .ret a w :=
  ⟨hl.defers, v, by simp [results, hr, hl.get t v hv], F', hR, hh.keep hp⟩
theorem f_ret2 {fn : Func} {R : Value → List (Nat × Obj) → Prop} {t1 t2 : Nat} {v1 v2 : Value} {F' : List (Nat × Obj)} (hl : Sl n L a) (hh : Has D w0 F w) (hr : fn.results = #[.tmp t1, .tmp t2]) (h1 : look L t1 = some v1) (h2 : look L t2 = some v2) (hp : Keeps F F' G) (hR : R (.tuple #[v1, v2]) F') : bodyPost P fn (Post D w0 R) .ret a w :=
  ⟨hl.defers, .tuple #[v1, v2], by simp [results, hr, hl.get t1 v1 h1, hl.get t2 v2 h2], F', hR, hh.keep hp⟩
theorem f_ret3 {fn : Func} {R : Value → List (Nat × Obj) → Prop} {t1 t2 t3 : Nat} {v1 v2 v3 : Value} {F' : List (Nat × Obj)} (hl : Sl n L a) (hh : Has D w0 F w) (hr : fn.results = #[.tmp t1, .tmp t2, .tmp t3]) (h1 : look L t1 = some v1) (h2 : look L t2 = some v2) (h3 : look L t3 = some v3) (hp : Keeps F F' G) (hR : R (.tuple #[v1, v2, v3]) F') : bodyPost P fn (Post D w0 R) .ret a w :=
  ⟨hl.defers, .tuple #[v1, v2, v3], by simp [results, hr, hl.get t1 v1 h1, hl.get t2 v2 h2, hl.get t3 v3 h3], F', hR, hh.keep hp⟩
/-- a result that lies in a box of its own -/
theorem run_loadVar_C {t : TypeId} {b : Nat} {l : List Value} {T' : TypeId} {m : Nat} (ht : aggOk P t m = true) (hm : w.heap[b]? = some (C l T')) (hn : l.length = m) : (loadVar t ⟨b, 0, none⟩).run P w = .ok (.agg ⟨l⟩) w := by
  subst hn
  have := run_loadCellsC (P := P) (o := 0) (cs := l) hm (by simp)
  simp [loadVar, (aggOk_run ht).1, (aggOk_run ht).2, this]
theorem f_retC {fn : Func} {R : Value → List (Nat × Obj) → Prop} {t : Nat} {ty T' : TypeId} {b m : Nat} {l : List Value} {F' G' : List (Nat × Obj)} (hl : Sl n L a) (hh : Has D w0 F w) (hr : fn.results = #[.cell t ty]) (hv : look L t = some (.pointer (some ⟨b, 0, none⟩)))
    (ht : aggOk P ty m = true) (hf : Find F b (C l T') G') (hn : l.length = m) (hp : Keeps F F' G) (hR : R (.agg ⟨l⟩) F') : bodyPost P fn (Post D w0 R) .ret a w :=
  ⟨hl.defers, .agg ⟨l⟩, by simp [results, hr, hl.get t _ hv, asAddr, run_loadVar_C ht (hh.mem b _ hf.mem) hn], F', hR, hh.keep hp⟩
theorem SlD.name (h : SlD dfs n L a) : ∃ K, K = L ∧ SlD dfs n K a := ⟨L, rfl, h⟩
theorem Has.name {A : List (Nat × Obj)} (h : Has D w0 F w) (hp : Keeps F A G) : ∃ H, H = G ∧ Has D w0 (A ++ H) w := ⟨G, rfl, h.perm hp.perm⟩
/-- a load from memory that was there at the call and is not written -/
theorem w_loadR {d : Nat} {x : Operand} {t : TypeId} {b o : Nat} {c : List Value} {T' : TypeId} {fr : Nat × Nat} {v : Value} (hl : SlD dfs n L a) (hh : Has D w0 F w) (hd : Nat.blt d n = true) (hg : GuardOk ops L g) (ht : oneOk P t = true)
    (hx : val L x = some (.pointer (some ⟨b, o, none⟩))) (hm : w0.heap[b]? = some (.cells ⟨c⟩ T' fr)) (hD : b ∉ D) (hc : c[o]? = some v) (k : ∀ a', SlD dfs n ((d, v) :: L) a' → K a' w) :
    OpW P ops Q ⟨some d, .load t x, T, pos, aft, g⟩ K a w :=
  wl_val hl hd hg (r_load hl hx ht ((hh.frm.block b (Array.getElem?_eq_some_iff.1 hm).1 hD).trans hm) (by simpa using hc)) k
theorem w_loadRA {d : Nat} {x : Operand} {t : TypeId} {m b o : Nat} {l : List Value} {T' : TypeId} {fr : Nat × Nat} {cs : List Value} (hl : SlD dfs n L a) (hh : Has D w0 F w) (hd : Nat.blt d n = true) (hg : GuardOk ops L g) (ht : aggOk P t m = true)
    (hx : val L x = some (.pointer (some ⟨b, o, none⟩))) (hm : w0.heap[b]? = some (.cells ⟨l⟩ T' fr)) (hD : b ∉ D) (hc : (l.drop o).take m = cs) (hn : cs.length = m) (k : ∀ a', SlD dfs n ((d, .agg ⟨cs⟩) :: L) a' → K a' w) :
    OpW P ops Q ⟨some d, .load t x, T, pos, aft, g⟩ K a w :=
  wl_val hl hd hg (r_loadA hl hx ht ((hh.frm.block b (Array.getElem?_eq_some_iff.1 hm).1 hD).trans hm) hc hn) k
end calls

/-! ## ways out -/
section ways
variable {Q : Exit → Act → World → Prop} {next : Act → World → Prop} {a : Act} {w : World} {id id' : Nat}
theorem then_normal (h : next a w) : Exit.then next Q .normal a w := h
theorem then_exit (h : Q (.exit id) a w) : Exit.then next Q (.exit id) a w := h
theorem then_ret (h : Q .ret a w) : Exit.then next Q .ret a w := h
theorem blk_normal (h : Q .normal a w) : Exit.inBlock id Q .normal a w := h
theorem blk_ret (h : Q .ret a w) : Exit.inBlock id Q .ret a w := h
theorem blk_exit (h : Q .normal a w) : Exit.inBlock id Q (.exit id) a w := by simp only [Exit.inBlock, if_true]; exact h
theorem blk_exit_ne (hn : Nat.beq id' id = false) (h : Q (.exit id') a w) : Exit.inBlock id Q (.exit id') a w := by
  have : id' ≠ id := fun e => by subst e; simp at hn
  simp only [Exit.inBlock, if_neg this]; exact h
end ways

/-! ## regions that draw their order -/
section draws
variable {P : Program} {ops : Array Oper} {Q : Exit → Act → World → Prop} {Lt : List Nat} {Cw : World → Prop}

/-- does 'j' wait for 'i', in one step or in many? -/
def waitsB (ops : Array Oper) : Nat → Nat → Nat → Bool
  | 0, _, _ => false
  | f + 1, j, i => match ops[j]? with
    | some oj => oj.after.any fun e => Region.binds .any e && (e.on == i || waitsB ops f e.on i)
    | none => false
/-- every operation of 'Lt' (the late ones) waits for every one that is not -/
def lateOk (ops : Array Oper) (Lt : List Nat) : Bool :=
  Lt.all fun j => (List.range ops.size).all fun i => Lt.contains i || waitsB ops ops.size j i
def Closed (ops : Array Oper) (listed : Array Bool) : Prop :=
  ∀ j oj, ops[j]? = some oj → listed.getD j false = true → ∀ e ∈ oj.after, Region.binds .any e = true → listed.getD e.on false = true
def closedB (ops : Array Oper) (listed : Array Bool) : Bool :=
  (List.range ops.size).all fun j => !(listed.getD j false) || (match ops[j]? with | some oj => oj.after.all (fun e => !Region.binds .any e || listed.getD e.on false) | none => true)
theorem closedB_spec {ops : Array Oper} {listed : Array Bool} (h : closedB ops listed = true) : Closed ops listed := by
  intro j oj hj hl e he hb
  have h1 := List.all_eq_true.1 h j (List.mem_range.2 (Array.getElem?_eq_some_iff.1 hj).1)
  rw [hl, hj] at h1
  simp only [Bool.not_true, Bool.false_or] at h1
  have h2 := Array.all_eq_true_iff_forall_mem.1 h1 e he
  rw [hb] at h2
  simpa using h2
theorem waitsB_listed {ops : Array Oper} {listed : Array Bool} (hc : Closed ops listed) : ∀ (f j i : Nat) (oj : Oper), ops[j]? = some oj → (∀ e ∈ oj.after, Region.binds .any e = true → listed.getD e.on false = true) → waitsB ops f j i = true → listed.getD i false = true
  | 0, _, _, _, _, _, h => by simp [waitsB] at h
  | f + 1, j, i, oj, hj, hall, h => by
    simp only [waitsB, hj] at h
    obtain ⟨e, he, hb⟩ := Array.any_eq_true'.1 h
    simp only [Bool.and_eq_true, Bool.or_eq_true, beq_iff_eq] at hb
    obtain ⟨hb1, hb2⟩ := hb
    have hon := hall e he hb1
    rcases hb2 with rfl | hb2
    · exact hon
    · cases hoe : ops[e.on]? with
      | none =>
        cases f with
        | zero => simp [waitsB] at hb2
        | succ f => simp [waitsB, hoe] at hb2
      | some oe => exact waitsB_listed hc f e.on i oe hoe (fun e' he' hb' => hc e.on oe hoe hon e' he' hb') hb2

/-- whatever order is drawn; behind every operation that is not late the world is one of 'Cw' -/
def wpAnyR (P : Program) (ops : Array Oper) (Lt : List Nat) (Cw : World → Prop) (Q : Exit → Act → World → Prop) : Nat → Array Bool → Act → World → Prop
  | 0, listed, a, w => Region.ready .any ops listed = [] ∧ Q .normal a w
  | fuel + 1, listed, a, w =>
    (Region.ready .any ops listed = [] → Q .normal a w) ∧
    ∀ i ∈ Region.ready .any ops listed, wpOp P ops Q i (fun a' w' => (Lt.contains i = false → Cw w') ∧ wpAnyR P ops Lt Cw Q fuel (listed.setIfInBounds i true) a' w') a w

theorem wpAnyR_sound : ∀ (fuel : Nat) (listed : Array Bool) (a : Act) (w : World), wpAnyR P ops Lt Cw Q fuel listed a w → wpAny P .any ops Q fuel listed a w
  | 0, _, _, _, h => h
  | fuel + 1, _, _, _, h => ⟨h.1, fun i hi => wpOp_mono (fun a' w' h' => wpAnyR_sound fuel _ a' w' h'.2) (h.2 i hi)⟩

/-- an operation that does not care whether 'v' lies in 'oi''s slot already -/
theorem opw_put {j : Nat} {oi oj : Oper} {v : Value} {E : Act → Prop} (hj : ops[j]? = some oj) (hap : oi.apart ops oj = true)
    (hsi : ∀ cs b, oi.op ≠ .select cs b) (hsj : ∀ cs b, oj.op ≠ .select cs b)
    (hQ : ∀ c a w, Q (.panic c) (a.put oi.dst v) w → Q (.panic c) a w)
    (hE : ∀ a a' : Act, execOp a'.eval oi = execOp a.eval oi → Region.wanted oi (yielded ops a'.tmps) = Region.wanted oi (yielded ops a.tmps) → E a → E a')
    {K : Act → World → Prop} {a : Act} {w : World} (hy : E a) (h : wpOp P ops Q j K (a.put oi.dst v) w) :
    wpOp P ops Q j (fun a' w' => E a' ∧ K (a'.put oi.dst v) w') a w := by
  obtain ⟨h1, h2, h3⟩ := Oper.apart_spec hap
  have keep : ∀ (a : Act), E a → ∀ u, E (a.put oj.dst u) := fun a hy u => hE a _ (execOp_put oi hsi a oj.dst u h3) (wanted_put oi a oj.dst u h3) hy
  have keepD : ∀ d, E { a with defers := d :: a.defers } := fun d => hE a _ rfl rfl hy
  unfold wpOp at h ⊢
  rw [hj] at h ⊢
  simp only at h ⊢
  rw [wanted_put oj a oi.dst v h1] at h
  by_cases hw : Region.wanted oj (yielded ops a.tmps) = true
  · rw [if_pos hw] at h ⊢
    rcases h with h | ⟨hasks, hlets⟩
    · left
      unfold Oper.wp at h ⊢
      rw [execOp_put oj hsj a oi.dst v h1] at h
      cases hr : (execOp a.eval oj).run P w with
      | ok nx w' =>
        rw [hr] at h
        cases nx <;> simp only [Oper.upon] at h ⊢
        case value u => exact ⟨keep a hy u, by rw [← Act.put_comm a v u h2]; exact h⟩
        case skip => exact ⟨keep a hy _, by rw [← Act.put_comm a v undef h2]; exact h⟩
        case defer d =>
          refine ⟨keep _ (keepD d) _, ?_⟩
          rw [← Act.put_comm _ v undef h2, ← Act.put_defers]
          exact h
        case enter f args =>
          refine Calls.mono h fun e w'' he => ?_
          cases e with
          | returned u => exact ⟨keep a hy u, by rw [← Act.put_comm a v u h2]; exact he⟩
          | panicked c => exact hQ _ _ _ he
          | outgrown => exact he
        case row row args => exact Rows.mono h fun u w'' he => ⟨keep a hy u, by rw [← Act.put_comm a v u h2]; exact he⟩
      | halt x w' =>
        rw [hr] at h
        cases x <;> simp only [Oper.upon] at h ⊢
        case panic u => exact hQ _ _ _ h
    · right
      refine ⟨?_, hlets⟩
      unfold Oper.asks at hasks ⊢
      rw [execOp_put oj hsj a oi.dst v h1] at hasks
      exact hasks
  · rw [if_neg hw] at h ⊢
    exact ⟨keep a hy _, by rw [← Act.put_comm a v undef h2]; exact h⟩

/-- in the worlds of 'Cc' the operation gives 'v' and leaves the world -/
def YieldsC (P : Program) (ops : Array Oper) (Cc : World → Prop) (o : Oper) (v : Value) (a : Act) : Prop :=
  (Region.wanted o (yielded ops a.tmps) = true ∧ ∀ w, Cc w → Gives P a o w v w) ∨ (Region.wanted o (yielded ops a.tmps) = false ∧ v = undef)

theorem YieldsC.wpOp {Cc : World → Prop} {i : Nat} {o : Oper} {v : Value} {a : Act} {w : World} (hi : ops[i]? = some o) (hy : YieldsC P ops Cc o v a) (hC : Cc w) {K : Act → World → Prop} (h : K (a.put o.dst v) w) : wpOp P ops Q i K a w := by
  unfold Go.wpOp
  rw [hi]
  simp only
  rcases hy with ⟨hw, hv⟩ | ⟨hw, rfl⟩
  · rw [if_pos hw]
    left
    unfold Oper.wp
    rw [hv w hC]
    exact h
  · rw [if_neg (by rw [hw]; simp)]
    exact h

theorem take_gen {Cc : World → Prop} {i : Nat} {oi : Oper} {v : Value} (hi : ops[i]? = some oi) (hsel : ∀ (j : Nat) (o : Oper) cs b, ops[j]? = some o → o.op ≠ .select cs b)
    (hQ : ∀ c a w, Q (.panic c) (a.put oi.dst v) w → Q (.panic c) a w) (hlate : lateOk ops Lt = true) (hCc : ∀ w', (Lt.contains i = false → Cw w') → Cc w') :
    ∀ (fuel : Nat) (listed : Array Bool) (a : Act) (w : World),
      (∀ j oj, ops[j]? = some oj → j ≠ i → listed.getD j true = false → (∀ e ∈ oj.after, Region.binds .any e = true → e.on ≠ i) → oi.apart ops oj = true) →
      Closed ops listed → i ∈ Region.ready .any ops listed → YieldsC P ops Cc oi v a → (Lt.contains i = false → Cw w) →
      wpAnyR P ops Lt Cw Q fuel (listed.setIfInBounds i true) (a.put oi.dst v) w → wpAnyR P ops Lt Cw Q (fuel + 1) listed a w := by
  intro fuel
  induction fuel with
  | zero =>
    intro listed a w _ _ hr hy hC H
    refine ⟨fun h => (by rw [h] at hr; cases hr), fun j hj => ?_⟩
    by_cases hji : j = i
    · subst hji; exact hy.wpOp hi (hCc w hC) ⟨hC, H⟩
    · have := ready_mono hj hji
      rw [H.1] at this
      cases this
  | succ fuel ih =>
    intro listed a w hfree hcl hr hy hC H
    refine ⟨fun h => (by rw [h] at hr; cases hr), fun j hj => ?_⟩
    by_cases hji : j = i
    · subst hji; exact hy.wpOp hi (hCc w hC) ⟨hC, H⟩
    · have h1 := H.2 j (ready_mono hj hji)
      obtain ⟨hjun, oj, hoj, hall⟩ := mem_ready.1 hj
      have hun := (mem_ready.1 hr).1
      have hnot : ∀ e ∈ oj.after, Region.binds .any e = true → e.on ≠ i := fun e he hb heq => by
        have h1 := hall e he hb
        rw [heq] at h1
        rcases Nat.lt_or_ge i listed.size with h' | h'
        · simp [h'] at hun h1; rw [hun] at h1; cases h1
        · simp [Array.getElem?_eq_none h'] at h1
      have hjl : Lt.contains i = false → Lt.contains j = false := by
        intro hil
        cases hjl : Lt.contains j
        · rfl
        · have hm : j ∈ Lt := by simpa using hjl
          have h2 := List.all_eq_true.1 hlate j hm
          have h3 := List.all_eq_true.1 h2 i (List.mem_range.2 (Array.getElem?_eq_some_iff.1 hi).1)
          rw [hil] at h3
          simp only [Bool.false_or] at h3
          have h4 := waitsB_listed hcl _ j i oj hoj hall h3
          rcases Nat.lt_or_ge i listed.size with h' | h'
          · simp [h'] at hun h4; rw [hun] at h4; cases h4
          · simp [Array.getElem?_eq_none h'] at h4
      have h2 := opw_put (E := YieldsC P ops Cc oi v) hoj (hfree j oj hoj hji hjun hnot) (fun cs b => hsel i oi cs b hi) (fun cs b => hsel j oj cs b hoj) hQ
        (fun a a' e1 e2 h => by unfold YieldsC Gives at *; rw [e1, e2]; exact h) hy h1
      have hfree' : ∀ k ok, ops[k]? = some ok → k ≠ i → (listed.setIfInBounds j true).getD k true = false →
          (∀ e ∈ ok.after, Region.binds .any e = true → e.on ≠ i) → oi.apart ops ok = true := fun k ok hk hki hun hno => by
        refine hfree k ok hk hki ?_ hno
        by_cases hjk : j = k
        · subst hjk; exact hjun
        · rw [getD_set_ne true hjk] at hun; exact hun
      refine wpOp_mono (fun a' w' h3 => ?_) h2
      obtain ⟨hya, hCw, hrest⟩ := h3
      have hcomm : (listed.setIfInBounds i true).setIfInBounds j true = (listed.setIfInBounds j true).setIfInBounds i true := (Array.setIfInBounds_comm _ _ hji).symm
      have hcl' : Closed ops (listed.setIfInBounds j true) := by
        intro k ok hk hlk e he hb
        by_cases hjk : j = k
        · subst hjk
          rw [hoj] at hk
          cases hk
          exact getD_set_true (hall e he hb)
        · rw [getD_set_ne false hjk] at hlk
          exact getD_set_true (hcl k ok hk hlk e he hb)
      exact ⟨hCw, ih (listed.setIfInBounds j true) a' w' hfree' hcl' (ready_mono hr (Ne.symm hji)) hya (fun hil => hCw (hjl hil)) (by rw [← hcomm]; exact hrest)⟩

variable {n : Nat} {L : List (Nat × Value)} {a : Act} {w : World} {T : TypeId} {pos : String} {aft : Array Edge} {g : Option (Nat × Bool)} {fuel : Nat} {listed : Array Bool}

/-- an operation that reads may be taken first -/
theorem d_take {i d : Nat} {op : Op} {v : Value} (hl : SlD dfs n L a) (hi : ops[i]? = some ⟨some d, op, T, pos, aft, g⟩) (hs : Region.noSelect ops = true) (hf : Region.free .any ops listed i = true) (hr : (Region.ready .any ops listed).contains i = true)
    (hlate : lateOk ops Lt = true) (hcl : closedB ops listed = true) (hd : Nat.blt d n = true) (hg : GuardOk ops L g) (hQ : ∀ c a w, Q (.panic c) (a.put (some d) v) w → Q (.panic c) a w) (hC : Cw w) (hy : ∀ w, Cw w → Gives P a ⟨some d, op, T, pos, aft, g⟩ w v w) (hlt : Lt.contains i = false)
    (k : ∀ a', SlD dfs n ((d, v) :: L) a' → wpAnyR P ops Lt Cw Q fuel (listed.setIfInBounds i true) a' w) : wpAnyR P ops Lt Cw Q (fuel + 1) listed a w :=
  take_gen (Cc := Cw) (oi := ⟨some d, op, T, pos, aft, g⟩) hi (Region.noSelect_spec hs) hQ hlate (fun _ h => h hlt) fuel listed a w (Region.free_spec hi hf) (closedB_spec hcl) (by simpa using hr)
    (.inl ⟨wanted_ok hl (o := ⟨some d, op, T, pos, aft, g⟩) hg, hy⟩) (fun _ => hC) (k _ (hl.put hd v))
/-- a late operation that touches no memory -/
theorem d_takeL {i d : Nat} {op : Op} {v : Value} (hl : SlD dfs n L a) (hi : ops[i]? = some ⟨some d, op, T, pos, aft, g⟩) (hs : Region.noSelect ops = true) (hf : Region.free .any ops listed i = true) (hr : (Region.ready .any ops listed).contains i = true)
    (hlate : lateOk ops Lt = true) (hcl : closedB ops listed = true) (hd : Nat.blt d n = true) (hg : GuardOk ops L g) (hQ : ∀ c a w, Q (.panic c) (a.put (some d) v) w → Q (.panic c) a w) (hy : ∀ w, Gives P a ⟨some d, op, T, pos, aft, g⟩ w v w) (hlt : Lt.contains i = true)
    (k : ∀ a', SlD dfs n ((d, v) :: L) a' → wpAnyR P ops Lt Cw Q fuel (listed.setIfInBounds i true) a' w) : wpAnyR P ops Lt Cw Q (fuel + 1) listed a w :=
  take_gen (Cc := fun _ => True) (oi := ⟨some d, op, T, pos, aft, g⟩) hi (Region.noSelect_spec hs) hQ hlate (fun _ _ => trivial) fuel listed a w (Region.free_spec hi hf) (closedB_spec hcl) (by simpa using hr)
    (.inl ⟨wanted_ok hl (o := ⟨some d, op, T, pos, aft, g⟩) hg, fun w _ => hy w⟩) (fun h => by rw [hlt] at h; cases h) (k _ (hl.put hd v))
/-- an operation whose guard says no -/
theorem d_skip {i d : Nat} {op : Op} (hl : SlD dfs n L a) (hi : ops[i]? = some ⟨some d, op, T, pos, aft, g⟩) (hs : Region.noSelect ops = true) (hf : Region.free .any ops listed i = true) (hr : (Region.ready .any ops listed).contains i = true)
    (hlate : lateOk ops Lt = true) (hcl : closedB ops listed = true) (hd : Nat.blt d n = true) (hg : GuardNo ops L g) (hQ : ∀ c a w, Q (.panic c) (a.put (some d) undef) w → Q (.panic c) a w) (hC : Cw w)
    (k : ∀ a', SlD dfs n ((d, undef) :: L) a' → wpAnyR P ops Lt Cw Q fuel (listed.setIfInBounds i true) a' w) : wpAnyR P ops Lt Cw Q (fuel + 1) listed a w :=
  take_gen (Cc := fun _ => True) (oi := ⟨some d, op, T, pos, aft, g⟩) hi (Region.noSelect_spec hs) hQ hlate (fun _ _ => trivial) fuel listed a w (Region.free_spec hi hf) (closedB_spec hcl) (by simpa using hr)
    (.inr ⟨wanted_no hl (o := ⟨some d, op, T, pos, aft, g⟩) hg, rfl⟩) (fun _ => hC) (k _ (hl.put hd undef))
/-- the one operation that may come now -/
theorem d_one {i : Nat} {o : Oper} (hr : Region.ready .any ops listed = [i]) (hi : ops[i]? = some o)
    (h : OpW P ops Q o (fun a' w' => (Lt.contains i = false → Cw w') ∧ wpAnyR P ops Lt Cw Q fuel (listed.setIfInBounds i true) a' w') a w) : wpAnyR P ops Lt Cw Q (fuel + 1) listed a w :=
  ⟨fun h0 => (by rw [hr] at h0; cases h0), fun j hj => (by rw [hr] at hj; simp only [List.mem_singleton] at hj; subst hj; exact wo hi h)⟩
/-- either of two -/
theorem d_two {i j : Nat} {oi oj : Oper} (hr : Region.ready .any ops listed = [i, j]) (hi : ops[i]? = some oi) (hj : ops[j]? = some oj)
    (h1 : OpW P ops Q oi (fun a' w' => (Lt.contains i = false → Cw w') ∧ wpAnyR P ops Lt Cw Q fuel (listed.setIfInBounds i true) a' w') a w)
    (h2 : OpW P ops Q oj (fun a' w' => (Lt.contains j = false → Cw w') ∧ wpAnyR P ops Lt Cw Q fuel (listed.setIfInBounds j true) a' w') a w) : wpAnyR P ops Lt Cw Q (fuel + 1) listed a w :=
  ⟨fun h0 => (by rw [hr] at h0; cases h0), fun k hk => by
    rw [hr] at hk
    rcases List.mem_cons.1 hk with e | hk
    · subst e; exact wo hi h1
    · simp only [List.mem_singleton] at hk; subst hk; exact wo hj h2⟩
theorem d_done (hr : Region.ready .any ops listed = []) (h : Q .normal a w) : wpAnyR P ops Lt Cw Q fuel listed a w := by
  cases fuel with
  | zero => exact ⟨hr, h⟩
  | succ f => exact ⟨fun _ => h, by rw [hr]; simp⟩
theorem d_step {i : Nat} {listed' : Array Bool} (hC : Lt.contains i = false → Cw w) (h : wpAnyR P ops Lt Cw Q fuel listed' a w) : (Lt.contains i = false → Cw w) ∧ wpAnyR P ops Lt Cw Q fuel listed' a w := ⟨hC, h⟩
variable {D : List Nat} {w0 : World} {F : List (Nat × Obj)}
/-- a region that draws: 'FC': the blocks that are read and not changed; 'Lt': the late operations -/
theorem c_draw {id : Nat} (FC : List (Nat × Obj)) (Lt : List Nat) (hm : P.follows .mixedOrders = true) (hh : Has D w0 F w)
    (h : ∀ w', Has D w0 F w' → wpAnyR P ops Lt (Mem FC) Q ops.size (Array.replicate ops.size false) a w') : (Code.region id ops true).wp P Q a w :=
  wp_region_any hm (wpAnyR_sound _ _ _ _ (h _ (hh.draw _)))
theorem Mem.nil {w : World} : Mem [] w := fun _ _ m => by cases m
theorem Mem.cons {w : World} {b : Nat} {o : Obj} {G FC : List (Nat × Obj)} (hm : Mem F w) (hf : Find F b o G) (h : Mem FC w) : Mem ((b, o) :: FC) w := fun c o' m => by
  rcases List.mem_cons.1 m with e | m
  · simp only [Prod.mk.injEq] at e
    rw [e.1, e.2]; exact hm b o hf.mem
  · exact h c o' m
end draws
/-! ## more -/
section more
variable {P : Program} {n : Nat} {L : List (Nat × Value)} {a : Act} {w : World} {T : TypeId} {pos : String} {aft : Array Edge} {g : Option (Nat × Bool)} {dst : Option Nat}
theorem SlD.addE {L' : List (Nat × Value)} (h : SlD dfs n L a) (h' : SlD dfs n L' a) {t : Nat} {u v : Value} (hv : look L t = some u) (e : u = v) : SlD dfs n ((t, v) :: L') a := by
  subst e; exact h.add h' hv

/-! slices -/
section slices
variable {x y z : Operand} {t : TypeId} {b o len cap size : Nat} {k k' : IntKind} {i j : Int}
theorem r_sliceA00 (hl : SlD dfs n L a) (hx : val L x = some (.pointer (some ⟨b, o, none⟩))) (ht : arrOk P t len size = true) (_h : True) :
    Gives P a ⟨dst, .slice t x none none none, T, pos, aft, g⟩ w (.slice (some ⟨b, o, none⟩) len len) w := by
  obtain ⟨e, inf, h2, h3, rfl⟩ := arrOk_spec ht
  have e0 : (⟨b, o, none⟩ : Addr).add 0 = ⟨b, o, none⟩ := rfl
  simp [Gives, execOp, hl.ev hx, Instr.sliceAt, run_underlying h2, Instr.sureAddr, Instr.sliceBounds, sizeOf, typeInfo, h3, e0]
theorem r_sliceA10 (hl : SlD dfs n L a) (hx : val L x = some (.pointer (some ⟨b, o, none⟩))) (hy : val L y = some (.int k i)) (ht : arrOk P t len size = true) (h : 0 ≤ i ∧ i < len) {q : Nat} (hq : i.toNat = q) :
    Gives P a ⟨dst, .slice t x (some y) none none, T, pos, aft, g⟩ w (.slice (some ⟨b, o + q * size, none⟩) (len - q) (len - q)) w := by
  subst hq
  obtain ⟨e, inf, h2, h3, rfl⟩ := arrOk_spec ht
  have hne : ¬ len = i.toNat := by omega
  simp [Gives, execOp, hl.ev hx, hl.ev hy, Instr.sliceAt, run_underlying h2, Instr.sureAddr, Instr.sliceBounds, Instr.sliceBound, asIntOf, sizeOf, typeInfo, h3, h.1, show i ≤ (len : Int) by omega, hne, add_off]
theorem r_sliceA01 (hl : SlD dfs n L a) (hx : val L x = some (.pointer (some ⟨b, o, none⟩))) (hy : val L y = some (.int k i)) (ht : arrOk P t len size = true) (h : 0 ≤ i ∧ i ≤ len) {q : Nat} (hq : i.toNat = q) :
    Gives P a ⟨dst, .slice t x none (some y) none, T, pos, aft, g⟩ w (.slice (some ⟨b, o, none⟩) q len) w := by
  subst hq
  obtain ⟨e, inf, h2, h3, rfl⟩ := arrOk_spec ht
  have e0 : (⟨b, o, none⟩ : Addr).add 0 = ⟨b, o, none⟩ := rfl
  simp [Gives, execOp, hl.ev hx, hl.ev hy, Instr.sliceAt, run_underlying h2, Instr.sureAddr, Instr.sliceBounds, Instr.sliceBound, asIntOf, sizeOf, typeInfo, h3, h.1, h.2, e0]
theorem r_sliceA11 (hl : SlD dfs n L a) (hx : val L x = some (.pointer (some ⟨b, o, none⟩))) (hy : val L y = some (.int k i)) (hz : val L z = some (.int k' j)) (ht : arrOk P t len size = true) (h : 0 ≤ i ∧ i ≤ j ∧ j ≤ len ∧ i < len) {q : Nat} (hq : i.toNat = q) {q2 : Nat} (hq2 : j.toNat = q2) :
    Gives P a ⟨dst, .slice t x (some y) (some z) none, T, pos, aft, g⟩ w (.slice (some ⟨b, o + q * size, none⟩) (q2 - q) (len - q)) w := by
  subst hq
  subst hq2
  obtain ⟨e, inf, h2, h3, rfl⟩ := arrOk_spec ht
  obtain ⟨h4, h5, h6, h7⟩ := h
  have hne : ¬ len = i.toNat := by omega
  have h8 : ¬ max j 0 < i := by omega
  simp [Gives, execOp, hl.ev hx, hl.ev hy, hl.ev hz, Instr.sliceAt, run_underlying h2, Instr.sureAddr, Instr.sliceBounds, Instr.sliceBound, asIntOf, sizeOf, typeInfo, h3, h4, h6, show 0 ≤ j by omega, h8, hne, add_off]
theorem r_sliceS10 (hl : SlD dfs n L a) (hx : val L x = some (.slice (some ⟨b, o, none⟩) len cap)) (hy : val L y = some (.int k i)) (ht : slcOk P t size = true) (h : 0 ≤ i ∧ i ≤ len ∧ i < cap) {q : Nat} (hq : i.toNat = q) :
    Gives P a ⟨dst, .slice t x (some y) none none, T, pos, aft, g⟩ w (.slice (some ⟨b, o + q * size, none⟩) (len - q) (cap - q)) w := by
  subst hq
  obtain ⟨e, inf, h2, h3, rfl⟩ := slcOk_spec ht
  obtain ⟨h4, h5, h6⟩ := h
  have hne : ¬ cap = i.toNat := by omega
  simp [Gives, execOp, hl.ev hx, hl.ev hy, Instr.sliceAt, Instr.slice, run_underlying h2, Instr.sliceBounds, Instr.sliceBound, asIntOf, sizeOf, typeInfo, h3, h4, h5, hne, add_off]
/-- the empty slice at the very end -/
theorem r_sliceS10e {p : Option Addr} (hl : SlD dfs n L a) (hx : val L x = some (.slice p len cap)) (hy : val L y = some (.int k i)) (ht : slcOk P t size = true) (h : 0 ≤ i ∧ i ≤ len ∧ i = cap) {q : Nat} (hq : i.toNat = q) :
    Gives P a ⟨dst, .slice t x (some y) none none, T, pos, aft, g⟩ w (.slice p (len - q) 0) w := by
  subst hq
  obtain ⟨e, inf, h2, h3, rfl⟩ := slcOk_spec ht
  obtain ⟨h4, h5, h6⟩ := h
  have hne : cap = i.toNat := by omega
  simp [Gives, execOp, hl.ev hx, hl.ev hy, Instr.sliceAt, Instr.slice, run_underlying h2, Instr.sliceBounds, Instr.sliceBound, asIntOf, sizeOf, typeInfo, h3, h4, h5, ← hne]
theorem r_sliceS01 {p : Option Addr} (hp : ∀ q, p = some q → q.spot = none) (hl : SlD dfs n L a) (hx : val L x = some (.slice p len cap)) (hy : val L y = some (.int k i)) (ht : slcOk P t size = true) (h : 0 ≤ i ∧ i ≤ cap) {q : Nat} (hq : i.toNat = q) :
    Gives P a ⟨dst, .slice t x none (some y) none, T, pos, aft, g⟩ w (.slice p q cap) w := by
  subst hq
  obtain ⟨e, inf, h2, h3, rfl⟩ := slcOk_spec ht
  have e0 : (if cap = 0 then p else p.map (·.add 0)) = p := by split <;> cases p <;> simp [Addr.add]
  simp [Gives, execOp, hl.ev hx, hl.ev hy, Instr.sliceAt, Instr.slice, run_underlying h2, Instr.sliceBounds, Instr.sliceBound, asIntOf, sizeOf, typeInfo, h3, h.1, h.2, e0]
theorem r_sliceS11 (hl : SlD dfs n L a) (hx : val L x = some (.slice (some ⟨b, o, none⟩) len cap)) (hy : val L y = some (.int k i)) (hz : val L z = some (.int k' j)) (ht : slcOk P t size = true) (h : 0 ≤ i ∧ i ≤ j ∧ j ≤ cap ∧ i < cap) {q : Nat} (hq : i.toNat = q) {q2 : Nat} (hq2 : j.toNat = q2) :
    Gives P a ⟨dst, .slice t x (some y) (some z) none, T, pos, aft, g⟩ w (.slice (some ⟨b, o + q * size, none⟩) (q2 - q) (cap - q)) w := by
  subst hq
  subst hq2
  obtain ⟨e, inf, h2, h3, rfl⟩ := slcOk_spec ht
  obtain ⟨h4, h5, h6, h7⟩ := h
  have hne : ¬ cap = i.toNat := by omega
  have h8 : ¬ max j 0 < i := by omega
  simp [Gives, execOp, hl.ev hx, hl.ev hy, hl.ev hz, Instr.sliceAt, Instr.slice, run_underlying h2, Instr.sliceBounds, Instr.sliceBound, asIntOf, sizeOf, typeInfo, h3, h4, h6, show 0 ≤ j by omega, h8, hne, add_off]
end slices

theorem toNat_add2 (a b : Nat) : ((a : Int) + (b : Int)).toNat = a + b := by omega
theorem toNat_add1 (a : Nat) : ((a : Int) + 1).toNat = a + 1 := by omega
theorem toNat_sub1 (a b : Nat) (h : b ≤ a) : ((a : Int) - (b : Int)).toNat = a - b := by omega
/-! building a struct or an array -/
def fillL (pl : List (Nat × Nat)) : List Value → List (Nat × Value) → Option (List Value)
  | l, [] => some l
  | l, (i, v) :: rest => match pl[i]? with
    | none => none
    | some (off, size) => bif (v.cells.toList.length == size && Nat.ble (off + v.cells.toList.length) l.length) then fillL pl (setL l off v.cells.toList) rest else none

theorem foldl_set : ∀ (vs : List Value) (i : Nat) (l : List Value) (off : Nat), off + i + vs.length ≤ l.length →
    (vs.zipIdx i).foldl (fun (cs : Array Value) (x : Value × Nat) => cs.setIfInBounds (off + x.2) x.1) ⟨l⟩ = ⟨l.take (off + i) ++ vs ++ l.drop (off + i + vs.length)⟩
  | [], i, l, off, h => by simp
  | v :: vs, i, l, off, h => by
    simp only [List.length_cons] at h
    simp only [List.zipIdx_cons, List.foldl_cons]
    have h1 : (Array.setIfInBounds ⟨l⟩ (off + i) v : Array Value) = ⟨l.set (off + i) v⟩ := by
      apply Array.ext'; simp [Array.setIfInBounds, show off + i < l.length by omega]
    rw [h1, foldl_set vs (i + 1) (l.set (off + i) v) off (by simp; omega)]
    congr 1
    apply List.ext_getElem?
    intro m
    simp only [List.append_assoc, List.getElem?_append, List.length_take, List.length_set, List.getElem?_take, List.getElem?_set, List.getElem?_drop, List.length_cons, List.getElem?_cons]
    by_cases c1 : m < off + i
    · have : m < min (off + (i + 1)) l.length := by omega
      have c2 : m < min (off + i) l.length := by omega
      simp [this, c2, show m < off + (i + 1) by omega, c1, show ¬ off + i = m by omega]
    · by_cases c2 : m = off + i
      · subst c2
        simp [show off + i < min (off + (i + 1)) l.length by omega, show min (off + i) l.length = off + i by omega, show off + i < off + (i + 1) by omega, show off + i < l.length by omega]
      · have a1 : ¬ m < min (off + (i + 1)) l.length := by omega
        have a2 : ¬ m < min (off + i) l.length := by omega
        have a3 : min (off + (i + 1)) l.length = off + (i + 1) := by omega
        have a4 : min (off + i) l.length = off + i := by omega
        rw [if_neg a1, if_neg a2, a3, a4]
        have a5 : m - (off + i) = (m - (off + (i + 1))) + 1 := by omega
        by_cases c3 : m - (off + (i + 1)) < vs.length
        · rw [if_pos c3, if_pos (by omega), if_neg (by omega)]
          congr 1
        · rw [if_neg c3, if_neg (by omega), if_neg (by omega)]
          congr 1
          omega

theorem fill_eq (pl : List (Nat × Nat)) (place : Nat → Option (Nat × Nat)) (hp : ∀ i q, pl[i]? = some q → place i = some q) : ∀ (ps : List (Nat × Value)) (l cs : List Value), fillL pl l ps = some cs → Instr.fill place ⟨l⟩ ps = some ⟨cs⟩
  | [], l, cs, h => by simp only [fillL, Option.some.injEq] at h; subst h; rfl
  | (i, v) :: rest, l, cs, h => by
    simp only [fillL] at h
    cases hpl : pl[i]? with
    | none => rw [hpl] at h; cases h
    | some q =>
      obtain ⟨off, size⟩ := q
      rw [hpl] at h
      simp only at h
      simp only [Instr.fill, hp i _ hpl]
      cases hc : (v.cells.toList.length == size && Nat.ble (off + v.cells.toList.length) l.length)
      · rw [hc] at h; cases h
      · rw [hc] at h
        simp only [cond_true] at h
        simp only [Bool.and_eq_true, beq_iff_eq] at hc
        obtain ⟨h1, h2⟩ := hc
        have h2' := Nat.le_of_ble_eq_true h2
        have hs : v.cells.size = size := by simpa using h1
        have hsz : ¬ ((v.cells.size ≠ size || off + v.cells.size > (⟨l⟩ : Array Value).size) = true) := by
          simp only [hs]; simp; have : v.cells.toList.length = size := h1; simp at h2' ⊢; omega
        rw [if_neg (by simpa using hsz)]
        have hfold : (v.cells.zipIdx.foldl (fun cs (c, j) => cs.setIfInBounds (off + j) c) ⟨l⟩ : Array Value) = ⟨setL l off v.cells.toList⟩ := by
          have := foldl_set v.cells.toList 0 l off (by simpa using h2')
          simp only [Nat.add_zero] at this
          rw [← Array.foldl_toList, Array.toList_zipIdx]
          simpa [setL] using this
        rw [hfold]
        exact fill_eq pl place hp rest _ cs h

theorem run_mapM {α β : Type} (f : α → Sem β) (q : α → Option β) (hq : ∀ x y, q x = some y → (f x).run P w = .ok y w) : ∀ (l : List α) (ys : List β), l.mapM q = some ys → (l.mapM f).run P w = .ok ys w
  | [], ys, h => by simp at h; subst h; simp
  | x :: l, ys, h => by
    simp only [List.mapM_cons, Option.bind_eq_bind] at h
    cases hx : q x with
    | none => simp [hx] at h
    | some y =>
      cases hr : l.mapM q with
      | none => simp [hx, hr] at h
      | some ys' =>
        simp only [hx, hr, Option.bind_some, Option.pure_def, Option.some.injEq] at h
        subst h
        simp [List.mapM_cons, hq x y hx, run_mapM f q hq l ys' hr]

def placeOf (P : Program) (f : Field) : Option (Nat × Nat) := match P.info? f.type with | some i => some (f.offset, i.size) | none => none
/-- the facts by which a struct or an array is built: its parts' places -/
def buildOk (P : Program) (t : TypeId) (pl : List (Nat × Nat)) : Bool :=
  match P.underlying t with
  | some (.struct fs) => (fs.toList.mapM (placeOf P)) == some pl
  | some (.array len e) => (match P.info? e with | some i => pl == (List.range len).map (fun j => (j * i.size, i.size)) | none => false)
  | _ => false
def valsP (L : List (Nat × Value)) : List (Nat × Operand) → Option (List (Nat × Value))
  | [] => some []
  | (i, x) :: xs => match val L x, valsP L xs with
    | some v, some vs => some ((i, v) :: vs)
    | _, _ => none
theorem SlD.evsP (hl : SlD dfs n L a) : ∀ (xs : List (Nat × Operand)) (vs : List (Nat × Value)), valsP L xs = some vs → xs.map (fun p => (p.1, a.eval p.2)) = vs
  | [], vs, h => by simp [valsP] at h; simp [h]
  | (i, x) :: xs, vs, h => by
    simp only [valsP] at h
    split at h
    · rename_i v vs' h1 h2
      simp only [Option.some.injEq] at h
      subst h
      simp [hl.ev h1, hl.evsP xs vs' h2]
    · cases h


theorem r_build {t : TypeId} {ps : List (Nat × Operand)} {vs : List (Nat × Value)} {zl cs : List Value} {pl : List (Nat × Nat)} (hl : SlD dfs n L a) (hv : valsP L ps = some vs) (hz : zeroOk P t (.agg ⟨zl⟩)) (hb : buildOk P t pl = true) (hf : fillL pl zl vs = some cs) :
    Gives P a ⟨dst, .build t ⟨ps⟩, T, pos, aft, g⟩ w (.agg ⟨cs⟩) w := by
  have he := hl.evsP ps vs hv
  unfold buildOk at hb
  have hp : (Array.map (fun x => (x.1, a.eval x.2)) ⟨ps⟩ : Array (Nat × Value)).toList = vs := by simp [he]
  cases hu : P.underlying t with
  | none => rw [hu] at hb; cases hb
  | some d =>
    rw [hu] at hb
    cases d with
    | struct fs =>
      simp only [beq_iff_eq] at hb
      have hm := run_mapM (P := P) (w := w) (fun f : Field => do pure (f.offset, ← sizeOf f.type)) (placeOf P) (fun x y h => by
        unfold placeOf at h
        split at h
        · rename_i i hi
          simp only [Option.some.injEq] at h
          subst h
          simp [sizeOf, typeInfo, hi]
        · cases h) fs.toList pl hb
      have hm2 : (fs.mapM (fun f : Field => do pure (f.offset, ← sizeOf f.type) : Field → Sem (Nat × Nat))).run P w = .ok ⟨pl⟩ w := by
        rw [Array.mapM_eq_mapM_toList, Sem.run_map, hm]; rfl
      have hfill := fill_eq pl (fun i => (⟨pl⟩ : Array (Nat × Nat))[i]?) (fun i q h => by simpa using h) vs zl cs hf
      simp only [Gives, execOp, Instr.build, Sem.run_bind, run_zero hz, Result.andThen_ok, run_underlying hu, hm2, Value.cells, hp, hfill, Sem.run_pure]
    | array len e =>
      cases hi : P.info? e with
      | none => simp only [hi] at hb; cases hb
      | some i =>
        simp only [hi, beq_iff_eq] at hb
        subst hb
        have hfill := fill_eq _ (fun j => some (j * i.size, i.size)) (fun j q h => by
          simp only [List.getElem?_map, Option.map_eq_some_iff] at h
          obtain ⟨j', h1, h2⟩ := h
          rw [List.getElem?_range] at h1
          · simp only [Option.some.injEq] at h1; subst h1; rw [h2]
          · have := (List.getElem?_eq_some_iff.1 h1).1; simpa using this) vs zl cs hf
        have hs : (sizeOf e).run P w = .ok i.size w := by simp [sizeOf, typeInfo, hi]
        simp only [Gives, execOp, Instr.build, Sem.run_bind, run_zero hz, Result.andThen_ok, run_underlying hu, Value.cells, hp, hs, hfill, Sem.run_pure]
    | _ => cases hb
end more
/-! ## '==' on structs and arrays of bools, integers, strings -/
def litV : Lit → Value
  | .bool b => .bool b
  | .int k n => .int k n
  | .string bs => .string ⟨⟨bs⟩⟩
  | _ => undef
def unlit : Value → Option Lit
  | .bool b => some (.bool b)
  | .int k n => some (.int k n)
  | .string s => some (.string s.data.toList)
  | _ => none
def unlitL : List Value → Option (List Lit)
  | [] => some []
  | v :: vs => match unlit v, unlitL vs with
    | some l, some ls => some (l :: ls)
    | _, _ => none
theorem unlit_eq {v : Value} {l : Lit} (h : unlit v = some l) : v = litV l := by
  cases v <;> simp only [unlit] at h <;> first | (cases h; rfl) | cases h
theorem unlitL_eq : ∀ {vs : List Value} {ls : List Lit}, unlitL vs = some ls → vs = ls.map litV
  | [], ls, h => by simp only [unlitL, Option.some.injEq] at h; subst h; rfl
  | v :: vs, ls, h => by
    simp only [unlitL] at h
    split at h
    · rename_i l ls' h1 h2
      simp only [Option.some.injEq] at h
      subst h
      simp [unlit_eq h1, unlitL_eq h2]
    · cases h
def litOk : TypeDesc → Lit → Prop
  | .bool, .bool _ => True
  | .int k, .int k' n => k' = k ∧ Fits k n
  | .string, .string bs => bs.length ≤ maxLen
  | _, _ => False
def LitsOk : List TypeDesc → List Lit → Prop
  | [], [] => True
  | d :: ds, l :: ls => litOk d l ∧ LitsOk ds ls
  | _, _ => False
theorem LitsOk.length : ∀ {ds : List TypeDesc} {ls : List Lit}, LitsOk ds ls → ls.length = ds.length
  | [], [], _ => rfl
  | _ :: _, _ :: _, h => by simp [LitsOk.length h.2]
  | [], _ :: _, h => h.elim
  | _ :: _, [], h => h.elim
theorem LitsOk.split : ∀ {ds es : List TypeDesc} {ls : List Lit}, LitsOk (ds ++ es) ls → LitsOk ds (ls.take ds.length) ∧ LitsOk es (ls.drop ds.length)
  | [], es, ls, h => ⟨trivial, by simpa using h⟩
  | d :: ds, es, [], h => h.elim
  | d :: ds, es, l :: ls, h => by
    have := LitsOk.split (ds := ds) (es := es) (ls := ls) h.2
    exact ⟨⟨h.1, by simpa using this.1⟩, by simpa using this.2⟩
theorem fits_wf {k : IntKind} {n : Int} (h : Fits k n) : (Lit.int k n).wf = true := by
  cases k <;> simp only [Fits] at h <;> simp [Lit.wf, IntKind.min, IntKind.max, IntKind.signed, IntKind.bits] <;> omega
theorem wf_fits {k : IntKind} {n : Int} (h : (Lit.int k n).wf = true) : Fits k n := by
  cases k <;> simp [Lit.wf, IntKind.min, IntKind.max, IntKind.signed, IntKind.bits] at h <;> simp only [Fits] <;> omega

/-- the leaves of a struct's fields, from a place on -/
def shapeFs (P : Program) (sh : TypeId → Option (List TypeDesc)) : Nat → List Field → Option (List TypeDesc)
  | _, [] => some []
  | off, f :: fs => match sh f.type with
    | some s => bif f.offset == off && s.length == P.cellsOf f.type then (match shapeFs P sh (off + s.length) fs with | some l => some (s ++ l) | none => none) else none
    | none => none
/-- the leaves of a type, cell by cell -/
def shapeT (P : Program) : Nat → TypeId → Option (List TypeDesc)
  | 0, _ => none
  | d + 1, t => match P.underlying t with
    | some .bool => some [.bool]
    | some (.int k) => some [.int k]
    | some .string => some [.string]
    | some (.array n e) => match shapeT P d e with
      | some s => bif s.length == P.cellsOf e && n * s.length == P.cellsOf t then some ((List.replicate n s).flatten) else none
      | none => none
    | some (.struct fs) => bif fs.all (·.name != "_") then (match shapeFs P (shapeT P d) 0 fs.toList with | some l => bif l.length == P.cellsOf t then some l else none | none => none) else none
    | _ => none

theorem mapM_chunks {P : Program} {d : Nat} {e : TypeId} {s : List TypeDesc} (hcell : s.length = P.cellsOf e)
    (ih : ∀ ls, LitsOk s ls → P.keyLits d e (ls.map litV) = some ls) (cs : List Value) : ∀ (n i : Nat) (ls : List Lit), LitsOk ((List.replicate n s).flatten) ls → cs.drop (i * s.length) = ls.map litV →
    ∃ lss, ((List.range' i n).mapM fun j => P.keyLits d e ((cs.drop (j * P.cellsOf e)).take (P.cellsOf e))) = some lss ∧ lss.flatten = ls
  | 0, i, ls, h, hc => by
    have : ls = [] := by cases ls with | nil => rfl | cons => exact h.elim
    subst this
    exact ⟨[], by simp, rfl⟩
  | n + 1, i, ls, h, hc => by
    rw [List.replicate_succ, List.flatten_cons] at h
    obtain ⟨h1, h2⟩ := h.split
    have hlen := h.length
    simp only [List.length_append] at hlen
    have e1 : (cs.drop (i * P.cellsOf e)).take (P.cellsOf e) = (ls.take s.length).map litV := by
      rw [← hcell, hc, List.map_take]
    have e2 : cs.drop ((i + 1) * s.length) = (ls.drop s.length).map litV := by
      rw [Nat.succ_mul, ← List.drop_drop, hc, List.map_drop]
    obtain ⟨lss, hl, hf⟩ := mapM_chunks hcell ih cs n (i + 1) (ls.drop s.length) h2 e2
    refine ⟨ls.take s.length :: lss, ?_, by simp [hf]⟩
    rw [List.range'_succ, List.mapM_cons, e1, ih _ h1]
    simp [hl]

theorem mapM_fields {P : Program} {d : Nat} (ih : ∀ e s ls, shapeT P d e = some s → LitsOk s ls → P.keyLits d e (ls.map litV) = some ls) (cs : List Value) : ∀ (fs : List Field) (off : Nat) (ds : List TypeDesc) (ls : List Lit),
    shapeFs P (shapeT P d) off fs = some ds → LitsOk ds ls → cs.drop off = ls.map litV →
    ∃ lss, (fs.mapM fun f => P.keyLits d f.type ((cs.drop f.offset).take (P.cellsOf f.type))) = some lss ∧ lss.flatten = ls
  | [], off, ds, ls, h, hl, hc => by
    simp only [shapeFs, Option.some.injEq] at h
    subst h
    have : ls = [] := by cases ls with | nil => rfl | cons => exact hl.elim
    subst this
    exact ⟨[], by simp, rfl⟩
  | f :: fs, off, ds, ls, h, hl, hc => by
    simp only [shapeFs] at h
    cases hs : shapeT P d f.type with
    | none => rw [hs] at h; cases h
    | some s =>
      rw [hs] at h
      simp only at h
      cases hb : (f.offset == off && s.length == P.cellsOf f.type)
      · rw [hb] at h; cases h
      · rw [hb] at h
        simp only [cond_true] at h
        simp only [Bool.and_eq_true, beq_iff_eq] at hb
        obtain ⟨ho, hcell⟩ := hb
        cases hr : shapeFs P (shapeT P d) (off + s.length) fs with
        | none => rw [hr] at h; cases h
        | some l =>
          rw [hr] at h
          simp only [Option.some.injEq] at h
          subst h
          obtain ⟨h1, h2⟩ := hl.split
          have e1 : (cs.drop f.offset).take (P.cellsOf f.type) = (ls.take s.length).map litV := by rw [← hcell, ho, hc, List.map_take]
          have e2 : cs.drop (off + s.length) = (ls.drop s.length).map litV := by rw [← List.drop_drop, hc, List.map_drop]
          obtain ⟨lss, hm, hf⟩ := mapM_fields ih cs fs (off + s.length) l (ls.drop s.length) hr h2 e2
          refine ⟨ls.take s.length :: lss, ?_, by simp [hf]⟩
          rw [List.mapM_cons, e1, ih _ _ _ hs h1]
          simp [hm]

theorem keyLits_shape {P : Program} : ∀ (d : Nat) (t : TypeId) (s : List TypeDesc) (ls : List Lit), shapeT P d t = some s → LitsOk s ls → P.keyLits d t (ls.map litV) = some ls
  | 0, t, s, ls, h, _ => by simp [shapeT] at h
  | d + 1, t, s, ls, h, hl => by
    have hlen := hl.length
    unfold shapeT at h
    unfold Program.keyLits
    cases hu : P.underlying t with
    | none => rw [hu] at h; cases h
    | some k =>
      rw [hu] at h
      cases k with
      | bool =>
        simp only [Option.some.injEq] at h
        subst h
        match ls, hl with
        | [.bool b], _ => simp [litV]
        | [.int _ _], h => exact h.1.elim
        | [.string _], h => exact h.1.elim
        | _ :: _ :: _, h => exact h.2.elim
      | int q =>
        simp only [Option.some.injEq] at h
        subst h
        match ls, hl with
        | [.int q' n], h => obtain ⟨⟨rfl, hf⟩, _⟩ := h; simp [litV, fits_wf hf]
        | [.bool _], h => exact h.1.elim
        | [.string _], h => exact h.1.elim
        | _ :: _ :: _, h => exact h.2.elim
      | string =>
        simp only [Option.some.injEq] at h
        subst h
        match ls, hl with
        | [.string bs], h => have := h.1; simp only [litOk] at this; simp [litV, ByteArray.size, this]
        | [.bool _], h => exact h.1.elim
        | [.int _ _], h => exact h.1.elim
        | _ :: _ :: _, h => exact h.2.elim
      | array n e =>
        simp only at h
        cases hs : shapeT P d e with
        | none => rw [hs] at h; cases h
        | some s' =>
          rw [hs] at h
          simp only at h
          cases hb : (s'.length == P.cellsOf e && n * s'.length == P.cellsOf t)
          · rw [hb] at h; cases h
          · rw [hb] at h
            simp only [cond_true, Option.some.injEq] at h
            subst h
            simp only [Bool.and_eq_true, beq_iff_eq] at hb
            obtain ⟨hb1, hb2⟩ := hb
            have hl2 : (ls.map litV).length = P.cellsOf t := by simp [hlen, hb2]
            obtain ⟨lss, h1, h2⟩ := mapM_chunks hb1 (fun ls h => keyLits_shape d e s' ls hs h) (ls.map litV) n 0 ls hl (by simp)
            rw [← List.range_eq_range'] at h1
            simp only [hl2, if_true, h1, Option.map_some, h2]
      | struct fs =>
        simp only at h
        cases ha : fs.all (·.name != "_")
        · rw [ha] at h; cases h
        · rw [ha] at h
          simp only [cond_true] at h
          cases hs : shapeFs P (shapeT P d) 0 fs.toList with
          | none => rw [hs] at h; cases h
          | some l =>
            rw [hs] at h
            simp only at h
            cases hb : (l.length == P.cellsOf t)
            · rw [hb] at h; cases h
            · rw [hb] at h
              simp only [cond_true, Option.some.injEq] at h
              subst h
              simp only [beq_iff_eq] at hb
              have hl2 : (ls.map litV).length = P.cellsOf t := by simp [hlen, hb]
              obtain ⟨lss, h1, h2⟩ := mapM_fields (fun e s ls hs h => keyLits_shape d e s ls hs h) (ls.map litV) fs.toList 0 l ls hs hl (by simp)
              simp only [hl2, ha, and_self, if_true, h1, Option.map_some, h2]
      | _ => cases h

def litBeq : Lit → Lit → Bool
  | .bool a, .bool b => a == b
  | .int k a, .int k' b => decide (k = k') && decide (a = b)
  | .string a, .string b => a == b
  | _, _ => false
def eqLits : List Lit → List Lit → Bool
  | [], [] => true
  | a :: as, b :: bs => litBeq a b && eqLits as bs
  | _, _ => false
theorem litBeq_iff {d : TypeDesc} {x y : Lit} (hx : litOk d x) (hy : litOk d y) : litBeq x y = true ↔ x = y := by
  cases d <;> cases x <;> cases y <;> simp_all [litOk, litBeq]
theorem eqLits_iff : ∀ {ds : List TypeDesc} {xs ys : List Lit}, LitsOk ds xs → LitsOk ds ys → (eqLits xs ys = true ↔ xs = ys)
  | [], [], [], _, _ => by simp [eqLits]
  | d :: ds, x :: xs, y :: ys, hx, hy => by
    simp only [eqLits, Bool.and_eq_true, List.cons.injEq, litBeq_iff hx.1 hy.1, eqLits_iff hx.2 hy.2]
  | [], _ :: _, _, h, _ => h.elim
  | [], [], _ :: _, _, h => h.elim
  | _ :: _, [], _, h, _ => h.elim
  | _ :: _, _ :: _, [], _, h => h.elim
/-- kept shut: a great list of leaves must not be opened -/
structure LitsFit (ds : List TypeDesc) (ls : List Lit) : Prop where
  ok : LitsOk ds ls
def eqOk (P : Program) (m : Nat) (t : TypeId) : Bool := P.keyTypeAt m t && Nat.ble m 9999 && !(P.eqGuardType P.depth t) && (match P.underlying t with | some (.array _ _) | some (.struct _) => true | _ => false)
section eqs
variable {P : Program} {n : Nat} {L : List (Nat × Value)} {a : Act} {w : World} {T : TypeId} {pos : String} {aft : Array Edge} {g : Option (Nat × Bool)} {dst : Option Nat}
theorem run_eqA {t : TypeId} {m d : Nat} {xs ys : List Value} {lx ly : List Lit} {s : List TypeDesc} (he : eqOk P m t = true) (hs : shapeT P d t = some s) (ux : unlitL xs = some lx) (uy : unlitL ys = some ly) (ox : LitsFit s lx) (oy : LitsFit s ly) :
    (Op.equal t (.agg ⟨xs⟩) (.agg ⟨ys⟩)).run P w = .ok (eqLits lx ly) w := by
  unfold eqOk at he
  simp only [Bool.and_eq_true] at he
  obtain ⟨⟨⟨hk, hm⟩, _⟩, hw⟩ := he
  have hm' := Nat.le_of_ble_eq_true hm
  have ex := unlitL_eq ux
  have ey := unlitL_eq uy
  have kx : P.keyLits d t xs = some lx := by rw [ex]; exact keyLits_shape d t s lx hs ox.ok
  have ky : P.keyLits d t ys = some ly := by rw [ey]; exact keyLits_shape d t s ly hs oy.ok
  have hlen : ∀ ls : List Lit, LitsOk s ls → ls.length = P.cellsOf t := by
    intro ls hl
    rw [hl.length]
    cases d with
    | zero => simp [shapeT] at hs
    | succ d =>
      unfold shapeT at hs
      cases hu : P.underlying t with
      | none => rw [hu] at hs; cases hs
      | some k =>
        rw [hu] at hs hw
        cases k with
        | array n e =>
          simp only at hs
          split at hs
          · rename_i s' _
            cases hb : (s'.length == P.cellsOf e && n * s'.length == P.cellsOf t)
            · rw [hb] at hs; cases hs
            · rw [hb] at hs
              simp only [cond_true, Option.some.injEq] at hs
              simp only [Bool.and_eq_true, beq_iff_eq] at hb
              rw [← hs, ← hb.2]; simp
          · cases hs
        | struct fs =>
          simp only at hs
          cases ha : fs.all (·.name != "_")
          · rw [ha] at hs; cases hs
          · rw [ha] at hs
            simp only [cond_true] at hs
            split at hs
            · rename_i l _
              cases hb : (l.length == P.cellsOf t)
              · rw [hb] at hs; cases hs
              · rw [hb] at hs
                simp only [cond_true, Option.some.injEq] at hs
                rw [← hs]; simpa using hb
            · cases hs
        | _ => cases hw
  have fm : ∀ (vs : List Value), vs.length = P.cellsOf t → (Value.agg ⟨vs⟩).formed P t = true := by
    intro vs hv
    unfold Value.formed
    split at hw <;> simp_all
  obtain ⟨r, hr, hiff⟩ := run_equalIn_deep (P := P) (10000 - m) m t hk w d d (.agg ⟨xs⟩) (.agg ⟨ys⟩) lx ly (fm xs (by rw [ex]; simp [hlen lx ox.ok])) (fm ys (by rw [ey]; simp [hlen ly oy.ok])) kx ky
  rw [show 10000 - m + m = 10000 by omega] at hr
  have : r = eqLits lx ly := by
    have h2 := eqLits_iff ox.ok oy.ok
    cases r <;> cases hq : eqLits lx ly
    · rfl
    · exact absurd (hiff.2 (h2.1 hq)) (by simp)
    · exact absurd (h2.2 (hiff.1 rfl)) (by simp [hq])
    · rfl
  rw [← this]
  exact hr
theorem r_eqlA {x y : Operand} {t u : TypeId} {m d : Nat} {xs ys : List Value} {lx ly : List Lit} {s : List TypeDesc} (hl : SlD dfs n L a) (hx : val L x = some (.agg ⟨xs⟩)) (hy : val L y = some (.agg ⟨ys⟩)) (he : eqOk P m t = true) (hs : shapeT P d t = some s)
    (ux : unlitL xs = some lx) (uy : unlitL ys = some ly) (ox : LitsFit s lx) (oy : LitsFit s ly) : Gives P a ⟨dst, .binOp .eql t x y u, T, pos, aft, g⟩ w (.bool (eqLits lx ly)) w := by
  have hr := run_eqA (P := P) (w := w) he hs ux uy ox oy
  unfold eqOk at he
  simp only [Bool.and_eq_true, Bool.not_eq_true'] at he
  simp [Gives, execOp, hl.ev hx, hl.ev hy, eqGuard, he.1.2, binOp, hr]
theorem r_neqA {x y : Operand} {t u : TypeId} {m d : Nat} {xs ys : List Value} {lx ly : List Lit} {s : List TypeDesc} (hl : SlD dfs n L a) (hx : val L x = some (.agg ⟨xs⟩)) (hy : val L y = some (.agg ⟨ys⟩)) (he : eqOk P m t = true) (hs : shapeT P d t = some s)
    (ux : unlitL xs = some lx) (uy : unlitL ys = some ly) (ox : LitsFit s lx) (oy : LitsFit s ly) : Gives P a ⟨dst, .binOp .neq t x y u, T, pos, aft, g⟩ w (.bool (!(eqLits lx ly))) w := by
  have hr := run_eqA (P := P) (w := w) he hs ux uy ox oy
  unfold eqOk at he
  simp only [Bool.and_eq_true, Bool.not_eq_true'] at he
  simp [Gives, execOp, hl.ev hx, hl.ev hy, eqGuard, he.1.2, binOp, hr]
end eqs
/-! ## slices that the call owns; append -/
def Row (v : Value) (n : Nat) (xs : List Value) (size : Nat) (e : TypeId) (E : List (Nat × Obj)) : Prop :=
  (v = .slice none 0 0 ∧ n = 0 ∧ xs = [] ∧ E = []) ∨
  (∃ b cap junk, v = .slice (some ⟨b, 0, none⟩) n cap ∧ xs.length = n * size ∧ (xs ++ junk).length = cap * size ∧ n ≤ cap ∧ E = [(b, C (xs ++ junk) e)])
theorem Row.nil (size : Nat) (e : TypeId) : Row (.slice none 0 0) 0 [] size e [] := .inl ⟨rfl, rfl, rfl, rfl⟩
theorem keeps_self {E : List (Nat × Obj)} : Keeps E E [] := ⟨by simp⟩
theorem keeps_mv {F E G : List (Nat × Obj)} {x : Nat × Obj} (h : Keeps F E G) : Keeps (x :: F) E (x :: G) := ⟨(List.Perm.cons x h.perm).trans List.perm_middle.symm⟩
def appOk (P : Program) (t e size bytes : Nat) : Bool :=
  match P.underlying t with
  | some (.slice e') => e' == e && (match P.info? e with | some i => i.size == size && i.bytes == bytes && (match i.zero with | some z => z.cells.size == size | none => false) | none => false)
  | _ => false
theorem appOk_spec {P : Program} {t e size bytes : Nat} (h : appOk P t e size bytes = true) : ∃ i z, P.underlying t = some (.slice e) ∧ P.info? e = some i ∧ i.zero = some z ∧ i.size = size ∧ i.bytes = bytes ∧ z.cells.size = size := by
  unfold appOk at h
  split at h
  · rename_i e' hu
    simp only [Bool.and_eq_true, beq_iff_eq] at h
    obtain ⟨rfl, h⟩ := h
    split at h
    · rename_i i hi
      simp only [Bool.and_eq_true, beq_iff_eq] at h
      obtain ⟨⟨h1, h2⟩, h3⟩ := h
      split at h3
      · rename_i z hz
        exact ⟨i, z, hu, hi, hz, h1, h2, by simpa using h3⟩
      · cases h3
    · cases h
  · cases h
theorem Has.drew {D : List Nat} {w0 w : World} {F : List (Nat × Obj)} (h : Has D w0 F w) : Has D w0 F w.drew := h.draw _
section app
variable {P : Program} {n : Nat} {L : List (Nat × Value)} {a : Act} {w : World} {T : TypeId} {pos : String} {aft : Array Edge} {g : Option (Nat × Bool)}
variable {ops : Array Oper} {Q : Exit → Act → World → Prop} {K : Act → World → Prop} {D : List Nat} {w0 : World} {F G : List (Nat × Obj)}

/-- what an append gives; the source's cells are 'news' -/
theorem run_appendRow {t ty e size bytes : Nat} {v : Value} {cnt : Nat} {xs : List Value} {E : List (Nat × Obj)} {p : Addr} {m c : Nat} {news : List Value} (ht : appOk P t e size bytes = true) (hs0 : 0 < size) (hR : Row v cnt xs size e E) (hh : Has D w0 (E ++ G) w)
    (hlen : news.length = m * size) (hnews : ∀ j u, news[j]? = some u → w.cell? (p.add j) = some u) (h1 : news.all (·.oneCell') = true) (hm : 0 < m) (hb : (cnt + m) * bytes ≤ 70368744177664) (hb2 : cnt + m ≤ 4611686018427387904) (hby : bytes ≤ 4294967296) :
    ∃ v' E' w', (Builtin.append_ #[t, t] ty #[v, .slice (some p) m c]).run P w = .ok v' w' ∧ Row v' (cnt + m) (xs ++ news) size e E' ∧ Has D w0 (E' ++ G) w' := by
  obtain ⟨i, z, hu, hi, hz, rfl, rfl, hzs⟩ := appOk_spec ht
  have hG : Has D w0 G w := by
    have h' := hh.perm List.perm_append_comm
    exact h'.keep (G := E) ⟨List.Perm.refl _⟩
  rcases hR with ⟨rfl, rfl, rfl, rfl⟩ | ⟨b, cap, junk, rfl, hxl, hjl, hnc, rfl⟩
  · have hr := run_append_nil (P := P) w t ty e i z hu hi hz p m c news hlen hnews hm (by omega) (by simp at hb; omega)
    have hge : m ≤ grownCap w m 0 e := grownCap_ge w m 0 e
    refine ⟨_, _, _, hr, .inr ⟨w.heap.size, grownCap w m 0 e, (Builtin.zeroCells z.cells (grownCap w m 0 e - m)).toList, by simp, by simpa using hlen, ?_, by simpa using hge, rfl⟩, ?_⟩
    · have := size_zeroCells z.cells (grownCap w m 0 e - m)
      simp only [List.nil_append, List.length_append, hlen, Array.length_toList, this, hzs, ← Nat.add_mul]
      congr 1; omega
    · have := hG.drew.alloc (C (news ++ (Builtin.zeroCells z.cells (grownCap w m 0 e - m)).toList) e)
      have e1 : (news.toArray ++ Builtin.zeroCells z.cells (grownCap w m 0 e - m)) = (⟨news ++ (Builtin.zeroCells z.cells (grownCap w m 0 e - m)).toList⟩ : Array Value) := by apply Array.ext'; simp
      rw [e1]
      exact this
  · have hf : Find ([(b, C (xs ++ junk) e)] ++ G) b (C (xs ++ junk) e) G := find_head
    have hm' := hh.mem b _ hf.mem
    by_cases hroom : cnt + m ≤ cap
    · have hfit : cnt * i.size + news.length ≤ (⟨xs ++ junk⟩ : Array Value).size := by
        have := Nat.mul_le_mul_right i.size hroom
        rw [Nat.add_mul] at this
        simp only [List.size_toArray, hjl, hlen]; exact this
      have hr := run_append_room (P := P) w t ty e i hu hi b cnt cap ⟨xs ++ junk⟩ hm' p m c news hlen hnews (fun u hu => by simpa using List.all_eq_true.1 h1 u hu) hroom hfit
      have e1 : (List.take (cnt * i.size) (xs ++ junk) ++ news ++ List.drop (cnt * i.size + news.length) (xs ++ junk)) = (xs ++ news) ++ junk.drop news.length := by
        rw [← hxl, List.take_left, List.drop_append, List.drop_eq_nil_of_le (by omega)]
        simp
      refine ⟨_, _, _, hr, .inr ⟨b, cap, junk.drop news.length, rfl, ?_, ?_, hroom, rfl⟩, ?_⟩
      · simp [hxl, hlen, Nat.add_mul]
      · have hjl' := hjl
        simp only [List.length_append] at hjl' ⊢
        have := Nat.mul_le_mul_right i.size hroom
        rw [Nat.add_mul] at this
        simp only [List.length_drop]; omega
      · have := hh.write hf (heap_setRow hm' (cs := ⟨(xs ++ news) ++ junk.drop news.length⟩)) rfl rfl rfl
        rw [show (⟨xs ++ junk⟩ : Array Value).toList = xs ++ junk from rfl, e1]
        exact this
    · have hfit2 : Builtin.nextslicecap (cnt + m) cap * i.bytes ≤ 281474976710656 := growslice_fits (by omega) (by omega)
      have holds : ∀ j u, xs[j]? = some u → w.cell? ((⟨b, 0, none⟩ : Addr).add j) = some u := fun j u hj => by
        rw [add_off]
        have hlt : j < xs.length := (List.getElem?_eq_some_iff.1 hj).1
        simp only [World.cell?, hm', C, Nat.zero_add]
        simpa [List.getElem?_append_left hlt] using hj
      have hr := run_append_grow (P := P) w t ty e i z hu hi hz ⟨b, 0, none⟩ cnt cap xs hxl holds p m c news hlen hnews (by omega) (by omega) hfit2
      have hge : cnt + m ≤ grownCap w (cnt + m) cap e := grownCap_ge w (cnt + m) cap e
      refine ⟨_, _, _, hr, .inr ⟨w.heap.size, grownCap w (cnt + m) cap e, (Builtin.zeroCells z.cells (grownCap w (cnt + m) cap e - (cnt + m))).toList, rfl, ?_, ?_, hge, rfl⟩, ?_⟩
      · simp [hxl, hlen, Nat.add_mul]
      · have := size_zeroCells z.cells (grownCap w (cnt + m) cap e - (cnt + m))
        simp only [List.length_append, hlen, hxl, Array.length_toList, this, hzs, ← Nat.add_mul]
        congr 1; omega
      · have := hG.drew.alloc (C (xs ++ news ++ (Builtin.zeroCells z.cells (grownCap w (cnt + m) cap e - (cnt + m))).toList) e)
        have e1 : (xs.toArray ++ news.toArray ++ Builtin.zeroCells z.cells (grownCap w (cnt + m) cap e - (cnt + m))) = (⟨xs ++ news ++ (Builtin.zeroCells z.cells (grownCap w (cnt + m) cap e - (cnt + m))).toList⟩ : Array Value) := by apply Array.ext'; simp
        rw [e1]
        exact this

theorem w_append {d : Nat} {x y : Operand} {t e size bytes : Nat} {v : Value} {cnt : Nat} {xs : List Value} {E G : List (Nat × Obj)} {b o m c : Nat} {news l : List Value} {Tb : TypeId} {fr : Nat × Nat} (hl : SlD dfs n L a) (hh : Has D w0 F w) (hd : Nat.blt d n = true) (hg : GuardOk ops L g)
    (ht : appOk P t e size bytes = true) (hs0 : Nat.blt 0 size = true) (hx : val L x = some v) (hy : val L y = some (.slice (some ⟨b, o, none⟩) m c)) (hR : Row v cnt xs size e E) (hp : Keeps F E G)
    (hsrc : w.heap[b]? = some (.cells ⟨l⟩ Tb fr)) (hnews : (l.drop o).take news.length = news) (hlen : news.length = m * size) (h1 : news.all (·.oneCell') = true) (hm : 0 < m) (hb : (cnt + m) * bytes ≤ 70368744177664) (hb2 : cnt + m ≤ 4611686018427387904) (hby : bytes ≤ 4294967296)
    (k : ∀ v' E' a' w', Row v' (cnt + m) (xs ++ news) size e E' → SlD dfs n ((d, v') :: L) a' → Has D w0 (E' ++ G) w' → K a' w') :
    OpW P ops Q ⟨some d, .call { callee := .builtin .append, args := #[x, y], argTypes := #[t, t] }, T, pos, aft, g⟩ K a w := by
  obtain ⟨v', E', w', hr, hR', hh'⟩ := run_appendRow (P := P) (ty := T) (c := c) ht (Nat.blt_eq.mp hs0) hR (hh.perm hp.perm) hlen (p := ⟨b, o, none⟩) (fun j u hj => by
    rw [add_off]
    simp only [World.cell?, hsrc]
    rw [← hnews, List.getElem?_take] at hj
    split at hj
    · simpa using hj
    · cases hj) h1 hm hb hb2 hby
  refine wl_val hl hd hg (v := v') (w' := w') ?_ fun a' hl' => k v' E' a' w' hR' hl' hh'
  simp [Gives, execOp, resolve, invoke, builtin, hl.ev hx, hl.ev hy, hr]

theorem f_retCTT {fn : Func} {R : Value → List (Nat × Obj) → Prop} {t t1 t2 : Nat} {ty T' : TypeId} {b m : Nat} {l : List Value} {v1 v2 : Value} {F' G G' : List (Nat × Obj)} (hl : Sl n L a) (hh : Has D w0 F w) (hr : fn.results = #[.cell t ty, .tmp t1, .tmp t2]) (hv : look L t = some (.pointer (some ⟨b, 0, none⟩)))
    (ht : aggOk P ty m = true) (hf : Find F b (C l T') G') (hn : l.length = m) (h1 : look L t1 = some v1) (h2 : look L t2 = some v2) (hp : Keeps F F' G) (hR : R (.tuple #[.agg ⟨l⟩, v1, v2]) F') : bodyPost P fn (Post D w0 R) .ret a w :=
  ⟨hl.defers, .tuple #[.agg ⟨l⟩, v1, v2], by simp [results, hr, hl.get t _ hv, hl.get t1 v1 h1, hl.get t2 v2 h2, asAddr, run_loadVar_C ht (hh.mem b _ hf.mem) hn], F', hR, hh.keep hp⟩
end app
theorem fillL_cons {pl : List (Nat × Nat)} {l : List Value} {i : Nat} {v : Value} {rest : List (Nat × Value)} {off size : Nat} (h : pl[i]? = some (off, size)) (hs : v.cells.toList.length = size) (hl : off + size ≤ l.length) :
    fillL pl l ((i, v) :: rest) = fillL pl (setL l off v.cells.toList) rest := by
  have hb : Nat.ble (off + size) l.length = true := by rw [Nat.ble_eq]; exact hl
  simp only [fillL, h, hs, hb, beq_self_eq_true, Bool.and_true, cond_true]
theorem Mem.consR {D : List Nat} {w0 w : World} {F FC : List (Nat × Obj)} {b : Nat} {o : Obj} (hh : Has D w0 F w) (hm : w0.heap[b]? = some o) (hD : b ∉ D) (h : Mem FC w) : Mem ((b, o) :: FC) w := fun c o' m => by
  rcases List.mem_cons.1 m with e | m
  · simp only [Prod.mk.injEq] at e
    rw [e.1, e.2]; exact (hh.frm.block b (Array.getElem?_eq_some_iff.1 hm).1 hD).trans hm
  · exact h c o' m
theorem Has.old {D : List Nat} {w0 w : World} {F : List (Nat × Obj)} {b : Nat} {o : Obj} (hh : Has D w0 F w) (hm : w0.heap[b]? = some o) (hD : b ∉ D) : w.heap[b]? = some o :=
  (hh.frm.block b (Array.getElem?_eq_some_iff.1 hm).1 hD).trans hm
theorem getElem?_of_take {l : List Value} {o m k : Nat} {cs : List Value} {v : Value} (h : (l.drop o).take m = cs) (hk : cs[k]? = some v) : l[o + k]? = some v := by
  rw [← h, List.getElem?_take] at hk
  split at hk
  · rw [List.getElem?_drop] at hk; exact hk
  · cases hk
theorem toNat_emod (a b : Nat) : ((a : Int) % (b : Int)).toNat = a % b := by omega
theorem zrep (zl : List Value) (h : 0 < zl.length) : ∀ n, (List.range (n * zl.length)).map (fun i => (⟨zl⟩ : Array Value)[i % zl.length]!) = (List.replicate n zl).flatten
  | 0 => by simp
  | n + 1 => by
    rw [Nat.succ_mul, Nat.add_comm, List.range_add, List.map_append, List.map_map, List.replicate_succ, List.flatten_cons, ← zrep zl h n]
    congr 1
    · apply List.ext_getElem?
      intro i
      by_cases hi : i < zl.length
      · simp [hi, Nat.mod_eq_of_lt hi]
      · rw [List.getElem?_eq_none (by simpa using hi), List.getElem?_eq_none (by omega)]
    · apply List.map_congr_left
      intro i _
      simp
def arrPl (len size : Nat) : List (Nat × Nat) := (List.range len).map fun i => (i * size, size)
section bs
variable {P : Program} {n : Nat} {L : List (Nat × Value)} {a : Act} {w : World} {T : TypeId} {pos : String} {aft : Array Edge} {g : Option (Nat × Bool)}
variable {ops : Array Oper} {Q : Exit → Act → World → Prop} {K : Act → World → Prop} {D : List Nat} {w0 : World} {F G : List (Nat × Obj)}
theorem run_buildSlice' {t e size bytes len : Nat} {vs : List (Nat × Value)} {z : Value} {zl cs : List Value} (ht : appOk P t e size bytes = true) (hz : zeroOk P e z) (hzc : z.cells = ⟨zl⟩) (h0 : 0 < size) (hlen : 0 < len) (hbig : len * size ≤ 16777216)
    (hf : fillL (arrPl len size) ((List.replicate len zl).flatten) vs = some cs) :
    (Instr.buildSlice t len ⟨vs⟩).run P w = .ok (.slice (some ⟨w.heap.size, 0, none⟩) len len) (w.alloc (.cells ⟨cs⟩ e)) := by
  obtain ⟨i, z', hu, hi, hz', rfl, rfl, hzs⟩ := appOk_spec ht
  have hzz : z' = z := by unfold zeroOk at hz; simp [hi, hz'] at hz; exact hz
  subst hzz
  have hzl : zl.length = i.size := by rw [hzc] at hzs; simpa using hzs
  have hfill := fill_eq (arrPl len i.size) (fun j => some (j * i.size, i.size)) (fun j q h => by
    simp only [arrPl, List.getElem?_map, Option.map_eq_some_iff] at h
    obtain ⟨j', h1, h2⟩ := h
    rw [List.getElem?_range] at h1
    · simp only [Option.some.injEq] at h1; subst h1; rw [h2]
    · have := (List.getElem?_eq_some_iff.1 h1).1; simpa using this) vs _ cs hf
  have hne : ¬ len * i.size = 0 := by have := Nat.mul_pos hlen h0; omega
  have hrow : (Array.map (fun x => (⟨zl⟩ : Array Value)[x % zl.length]!) (Array.range (len * i.size)) : Array Value) = ⟨(List.replicate len zl).flatten⟩ := by
    apply Array.ext'
    rw [Array.toList_map, Array.toList_range, ← hzl]
    exact zrep zl (by omega) len
  have hs : (sizeOf e).run P w = .ok i.size w := by simp [sizeOf, typeInfo, hi]
  have hbig' : ¬ len * i.size > 2 ^ 24 := by omega
  simp only [Instr.buildSlice, Sem.run_bind, run_underlying hu, Result.andThen_ok, hs, if_neg hbig', if_neg hne, run_zero hz, Sem.run_pure, hzc, List.size_toArray, hrow, hfill, newRow, newObj]
  rfl
theorem w_buildSlice {d : Nat} {t e size bytes len : Nat} {ps : List (Nat × Operand)} {vs : List (Nat × Value)} {z : Value} {zl cs : List Value} (hl : SlD dfs n L a) (hh : Has D w0 F w) (hd : Nat.blt d n = true) (hg : GuardOk ops L g)
    (ht : appOk P t e size bytes = true) (hz : zeroOk P e z) (hzc : z.cells = ⟨zl⟩) (h0 : Nat.blt 0 size = true) (hlen : Nat.blt 0 len = true) (hbig : Nat.ble (len * size) 16777216 = true) (hv : valsP L ps = some vs)
    (hf : fillL (arrPl len size) ((List.replicate len zl).flatten) vs = some cs)
    (k : ∀ b a' w', SlD dfs n ((d, .slice (some ⟨b, 0, none⟩) len len) :: L) a' → Has D w0 ((b, C cs e) :: F) w' → K a' w') :
    OpW P ops Q ⟨some d, .buildSlice t len ⟨ps⟩, T, pos, aft, g⟩ K a w := by
  have he := hl.evsP ps vs hv
  have hp : (Array.map (fun x => (x.1, a.eval x.2)) ⟨ps⟩ : Array (Nat × Value)) = ⟨vs⟩ := by apply Array.ext'; simp [he]
  have hr := run_buildSlice' (P := P) (w := w) ht hz hzc (Nat.blt_eq.mp h0) (Nat.blt_eq.mp hlen) (Nat.le_of_ble_eq_true hbig) hf
  refine wl_val hl hd hg (v := .slice (some ⟨w.heap.size, 0, none⟩) len len) (w' := w.alloc (C cs e)) ?_ fun a' hl' => k _ a' _ hl' (hh.alloc (C cs e))
  simp only [Gives, execOp, Sem.run_bind, hp, hr, Result.andThen_ok, Sem.run_pure]
  rfl
end bs
theorem Has.comm {D : List Nat} {w0 w : World} {A B : List (Nat × Obj)} (h : Has D w0 (A ++ B) w) : Has D w0 (B ++ A) w := h.perm List.perm_append_comm
theorem Row.one {v : Value} {cnt : Nat} {xs : List Value} {size : Nat} {e : TypeId} {E : List (Nat × Obj)} (h : Row v cnt xs size e E) : v.oneCell' = true := by
  rcases h with ⟨rfl, _⟩ | ⟨b, cap, junk, rfl, _⟩ <;> rfl
end Go.Eng

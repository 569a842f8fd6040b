import Derived.Test.Qxb6500908aGreatEng
import Derived.Test.Qxb6500908aGreatStr
set_option linter.unusedVariables false
set_option linter.unusedSimpArgs false
namespace Go.Eng
section byt
variable {P : Program} {n : Nat} {L : List (Nat × Value)} {a : Act} {w : World} {T : TypeId} {pos : String} {aft : Array Edge} {g : Option (Nat × Bool)} {dst : Option Nat} {x y : Operand}
def slcT (P : Program) (t : TypeId) : Bool := match P.underlying t with | some (.slice _) => true | _ => false
theorem run_eq_slcN {t : TypeId} {p : Option Addr} {m cap : Nat} (ht : slcT P t = true) : (Op.equal t (.slice p m cap) (.slice none 0 0)).run P w = .ok p.isNone w := by
  unfold slcT at ht
  split at ht
  · rename_i e hu
    unfold Op.equal
    show (Op.equalIn (9999 + 1) t (.slice p m cap) (.slice none 0 0)).run P w = _
    unfold Op.equalIn
    cases p <;> simp [run_underlying hu]
  · cases ht
/-- a slice against the literal nil -/
theorem r_eql_slcN {t u : TypeId} {p : Option Addr} {m cap : Nat} (hl : Sl n L a) (hx : val L x = some (.slice p m cap)) (hy : val L y = some (.slice none 0 0)) (ht : slcT P t = true) : Gives P a ⟨dst, .binOp .eql t x y u, T, pos, aft, g⟩ w (.bool p.isNone) w := by
  simp [Gives, execOp, hl.ev hx, hl.ev hy, eqGuard, binOp, run_eq_slcN ht]
theorem r_neq_slcN {t u : TypeId} {p : Option Addr} {m cap : Nat} (hl : Sl n L a) (hx : val L x = some (.slice p m cap)) (hy : val L y = some (.slice none 0 0)) (ht : slcT P t = true) : Gives P a ⟨dst, .binOp .neq t x y u, T, pos, aft, g⟩ w (.bool !p.isNone) w := by
  simp [Gives, execOp, hl.ev hx, hl.ev hy, eqGuard, binOp, run_eq_slcN ht]
def u8Of (v : Value) : UInt8 := match v with | .int .u8 x => UInt8.ofNat x.toNat | _ => 0
/-- the text of a row of bytes -/
def bstr (cs : List Value) : ByteArray := cs.foldl (fun s v => s.push (u8Of v)) ByteArray.empty
theorem run_bytesF {f : Value → ByteArray → Sem (ForInStep ByteArray)} (hf : ∀ (x : Int) (s : ByteArray), (f (.int .u8 x) s).run P w = .ok (.yield (s.push (UInt8.ofNat x.toNat))) w) {cs : List Value} :
    ∀ (s : ByteArray), (∀ v, v ∈ cs → ∃ x : Int, v = .int .u8 x) → (forIn (m := Sem) cs s f).run P w = .ok (cs.foldl (fun s v => s.push (u8Of v)) s) w := by
  induction cs with
  | nil => intro s _; rfl
  | cons v cs ih =>
    intro s h
    obtain ⟨x, rfl⟩ := h v (List.mem_cons_self ..)
    rw [List.forIn_cons]
    simp only [Sem.run_bind, hf, Result.andThen_ok]
    exact ih _ (fun v hv => h v (List.mem_cons_of_mem _ hv))
theorem run_bytesG {f : Value → ByteArray → Sem (ForInStep ByteArray)} {cs : List Value} {g : ByteArray → World → Result Value} (hb : ∀ v, v ∈ cs → ∃ x : Int, v = .int .u8 x)
    (hf : ∀ (x : Int) (s : ByteArray), (f (.int .u8 x) s).run P w = .ok (.yield (s.push (UInt8.ofNat x.toNat))) w) (hg : ∀ s, g s w = .ok (.string s) w) : ((forIn (m := Sem) cs ByteArray.empty f).run P w).andThen g = .ok (.string (bstr cs)) w := by
  rw [run_bytesF hf _ hb]; exact hg _
/-- a slice of bytes that holds cs -/
def Rd (p : Option Addr) (m : Nat) (cs : List Value) (w : World) : Prop :=
  (m = 0 ∧ cs = []) ∨ (cs.length = m ∧ ∃ b o l T' fr, p = some ⟨b, o, none⟩ ∧ w.heap[b]? = some (.cells ⟨l⟩ T' fr) ∧ (l.drop o).take m = cs)
theorem Rd.keep {p : Option Addr} {m : Nat} {cs : List Value} {w w' : World} {F : List (Nat × Obj)} (hh : Has [] w F w') (h : Rd p m cs w) : Rd p m cs w' := by
  rcases h with h | ⟨h1, b, o, l, T', fr, h2, h3, h4⟩
  · exact .inl h
  · exact .inr ⟨h1, b, o, l, T', fr, h2, (hh.frm.block b (Array.getElem?_eq_some_iff.1 h3).1 (by simp)).trans h3, h4⟩
theorem r_bytesToString {s t e : TypeId} {p : Option Addr} {m cap : Nat} {cs : List Value} (hl : Sl n L a)
    (hs : P.underlying s = some (.slice e)) (ht : P.underlying t = some .string) (he : P.underlying e = some (.int .u8)) (hx : val L x = some (.slice p m cap)) (hr : Rd p m cs w) (hb : ∀ v, v ∈ cs → ∃ x : Int, v = .int .u8 x) :
    Gives P a ⟨dst, .convert s t x, T, pos, aft, g⟩ w (.string (bstr cs)) w := by
  have hq : (convert s t (.slice p m cap)).run P w = .ok (.string (bstr cs)) w := by
    rcases hr with ⟨rfl, rfl⟩ | ⟨rfl, b, o, l, T', fr, rfl, h3, h4⟩
    · cases p with
      | none => simp [convert, Sem.run_bind, run_underlying hs, run_underlying ht, run_underlying he, Result.andThen_ok, Conv.bytesToString]; rfl
      | some p => simp [convert, Sem.run_bind, run_underlying hs, run_underlying ht, run_underlying he, Result.andThen_ok, Conv.bytesToString, loadCells, loadCellsFrom]; rfl
    · have hr := run_loadCellsC (P := P) h3 h4
      simp only [convert, Sem.run_bind, run_underlying hs, run_underlying ht, run_underlying he, Result.andThen_ok, Conv.bytesToString, hr, List.forIn_toArray]
      exact run_bytesG hb (fun x s => rfl) (fun s => rfl)
  simp [Gives, execOp, hl.ev hx, hq]
def ptrCmp (P : Program) (tp e : TypeId) : Bool := match P.info? tp, P.underlying tp, P.info? e with | some i, some (.pointer e'), some _ => i.comparable && e' == e | _, _, _ => false
theorem run_eq_ifcP {t tp e : TypeId} {p : Addr} (ht : ifcT P t = true) (hp : ptrCmp P tp e = true) : (Op.equal t (.iface tp (.pointer (some p))) (.iface tp (.pointer (some p)))).run P w = .ok true w := by
  unfold ptrCmp at hp
  split at hp
  · rename_i i e' j hi hu hj
    simp only [Bool.and_eq_true, beq_iff_eq] at hp
    obtain ⟨hc, rfl⟩ := hp
    unfold ifcT at ht
    split at ht
    · rename_i ms hm
      unfold Op.equal
      show (Op.equalIn (9998 + 1 + 1) t _ _).run P w = _
      unfold Op.equalIn
      simp only [Sem.run_bind, run_underlying hm, Result.andThen_ok, ne_eq, not_true_eq_false, if_false, typeInfo, hi, hc, Bool.not_true]
      unfold Op.equalIn
      by_cases h0 : j.size = 0
      · simp [run_underlying hu, sizeOf, typeInfo, hi, hj, hc, h0]
      · simp [run_underlying hu, sizeOf, typeInfo, hi, hj, hc, h0, sameAddr]
    · cases ht
  · cases hp
/-- the same pointer in two interface values -/
theorem r_neq_ifcP {t u tp e : TypeId} {p : Addr} (hl : Sl n L a) (hx : val L x = some (.iface tp (.pointer (some p)))) (hy : val L y = some (.iface tp (.pointer (some p)))) (ht : ifcT P t = true) (hp : ptrCmp P tp e = true) : Gives P a ⟨dst, .binOp .neq t x y u, T, pos, aft, g⟩ w (.bool false) w := by
  simp [Gives, execOp, hl.ev hx, hl.ev hy, eqGuard, binOp, run_eq_ifcP ht hp]
end byt
end Go.Eng

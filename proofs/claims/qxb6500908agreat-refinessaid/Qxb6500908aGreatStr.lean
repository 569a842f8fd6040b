import Derived.Test.Qxb6500908aGreatEng
import Derived.Test.Qxb6500908aGreatArr
import Derived.Laws.IdiomStrings
set_option linter.unusedVariables false
set_option linter.unusedSimpArgs false
namespace Go.Eng
def byteAt (s : ByteArray) (i : Nat) : Int := match s[i]? with | some b => (b.toNat : Int) | none => 0
theorem byteAt_range (s : ByteArray) (i : Nat) : 0 ≤ byteAt s i ∧ byteAt s i ≤ 255 := by
  unfold byteAt
  split
  · rename_i b _; have := b.toNat_lt; omega
  · omega
section str
variable {P : Program} {n : Nat} {L : List (Nat × Value)} {a : Act} {w : World} {T : TypeId} {pos : String} {aft : Array Edge} {g : Option (Nat × Bool)} {dst : Option Nat} {x y : Operand}
theorem r_eql_string {t u : TypeId} {p q : ByteArray} (hl : Sl n L a) (hx : val L x = some (.string p)) (hy : val L y = some (.string q)) : Gives P a ⟨dst, .binOp .eql t x y u, T, pos, aft, g⟩ w (.bool (p.toList == q.toList)) w := by
  simp [Gives, execOp, hl.ev hx, hl.ev hy, eqGuard, binOp, Op.stringOp]
theorem r_neq_string {t u : TypeId} {p q : ByteArray} (hl : Sl n L a) (hx : val L x = some (.string p)) (hy : val L y = some (.string q)) : Gives P a ⟨dst, .binOp .neq t x y u, T, pos, aft, g⟩ w (.bool !(p.toList == q.toList)) w := by
  simp [Gives, execOp, hl.ev hx, hl.ev hy, eqGuard, binOp, Op.stringOp]
theorem r_indexStr {t : TypeId} {s : ByteArray} {k : IntKind} {i : Int} (hl : Sl n L a) (hx : val L x = some (.string s)) (hy : val L y = some (.int k i)) (ht : P.underlying t = some .string) (h0 : 0 ≤ i) (h1 : i < s.size) {q : Nat} (hq : i.toNat = q) :
    Gives P a ⟨dst, .index t x y, T, pos, aft, g⟩ w (.int .u8 (byteAt s q)) w := by
  subst hq
  have hb : i.toNat < s.size := by omega
  simp [Gives, execOp, hl.ev hx, hl.ev hy, Instr.index, asIntOf, run_underlying ht, h0, byteAt, hb]
theorem r_sliceStr10 {t : TypeId} {lo : Operand} {s : ByteArray} {k : IntKind} {i : Int} (hl : Sl n L a) (hx : val L x = some (.string s)) (hlo : val L lo = some (.int k i)) (ht : P.underlying t = some .string) (h0 : 0 ≤ i) (h1 : i ≤ s.size) {q : Nat} (hq : i.toNat = q) :
    Gives P a ⟨dst, .slice t x (some lo) none none, T, pos, aft, g⟩ w (.string (s.extract q s.size)) w := by
  subst hq
  simp [Gives, execOp, hl.ev hx, hl.ev hlo, Instr.sliceAt, Instr.slice, Instr.sliceBounds, Instr.sliceBound, asIntOf, run_underlying ht, h0, h1]
def ptrT (P : Program) (t : TypeId) : Bool := match P.underlying t with | some (.pointer _) => true | _ => false
theorem run_eq_ptr {t : TypeId} {p : Option Addr} (ht : ptrT P t = true) : (Op.equal t (.pointer p) (.pointer none)).run P w = .ok p.isNone w := by
  unfold ptrT at ht
  split at ht
  · rename_i e hu
    unfold Op.equal
    show (Op.equalIn (9999 + 1) t (.pointer p) (.pointer none)).run P w = _
    unfold Op.equalIn
    cases p <;> simp [run_underlying hu]
  · cases ht
/-- a pointer against nil -/
theorem r_eql_pointer {t u : TypeId} {p : Option Addr} (hl : Sl n L a) (hx : val L x = some (.pointer p)) (hy : val L y = some (.pointer none)) (ht : ptrT P t = true) : Gives P a ⟨dst, .binOp .eql t x y u, T, pos, aft, g⟩ w (.bool p.isNone) w := by
  simp [Gives, execOp, hl.ev hx, hl.ev hy, eqGuard, binOp, run_eq_ptr ht]
theorem r_neq_pointer {t u : TypeId} {p : Option Addr} (hl : Sl n L a) (hx : val L x = some (.pointer p)) (hy : val L y = some (.pointer none)) (ht : ptrT P t = true) : Gives P a ⟨dst, .binOp .neq t x y u, T, pos, aft, g⟩ w (.bool !p.isNone) w := by
  simp [Gives, execOp, hl.ev hx, hl.ev hy, eqGuard, binOp, run_eq_ptr ht]
def ifcT (P : Program) (t : TypeId) : Bool := match P.underlying t with | some (.interface _) => true | _ => false
theorem run_eq_ifcN {t : TypeId} (ht : ifcT P t = true) : (Op.equal t .nilIface .nilIface).run P w = .ok true w := by
  unfold ifcT at ht
  split at ht
  · rename_i e hu
    unfold Op.equal
    show (Op.equalIn (9999 + 1) t .nilIface .nilIface).run P w = _
    unfold Op.equalIn
    simp [run_underlying hu]
  · cases ht
theorem run_eq_ifcS {t t' : TypeId} {v : Value} (ht : ifcT P t = true) : (Op.equal t (.iface t' v) .nilIface).run P w = .ok false w := by
  unfold ifcT at ht
  split at ht
  · rename_i e hu
    unfold Op.equal
    show (Op.equalIn (9999 + 1) t (.iface t' v) .nilIface).run P w = _
    unfold Op.equalIn
    simp [run_underlying hu]
  · cases ht
/-- an interface value against the literal nil -/
theorem r_eql_ifcN {t u : TypeId} (hl : Sl n L a) (hx : val L x = some .nilIface) (ht : ifcT P t = true) : Gives P a ⟨dst, .binOp .eql t x (.const .nilIface) u, T, pos, aft, g⟩ w (.bool true) w := by
  have hc : a.eval (.const .nilIface) = .nilIface := rfl
  simp [Gives, execOp, hl.ev hx, hc, eqGuard, binOp, run_eq_ifcN ht]
theorem r_neq_ifcN {t u : TypeId} (hl : Sl n L a) (hx : val L x = some .nilIface) (ht : ifcT P t = true) : Gives P a ⟨dst, .binOp .neq t x (.const .nilIface) u, T, pos, aft, g⟩ w (.bool false) w := by
  have hc : a.eval (.const .nilIface) = .nilIface := rfl
  simp [Gives, execOp, hl.ev hx, hc, eqGuard, binOp, run_eq_ifcN ht]
theorem r_eql_ifcS {t u t' : TypeId} {v : Value} (hl : Sl n L a) (hx : val L x = some (.iface t' v)) (ht : ifcT P t = true) : Gives P a ⟨dst, .binOp .eql t x (.const .nilIface) u, T, pos, aft, g⟩ w (.bool false) w := by
  have hc : a.eval (.const .nilIface) = .nilIface := rfl
  simp [Gives, execOp, hl.ev hx, hc, eqGuard, binOp, run_eq_ifcS ht]
theorem r_neq_ifcS {t u t' : TypeId} {v : Value} (hl : Sl n L a) (hx : val L x = some (.iface t' v)) (ht : ifcT P t = true) : Gives P a ⟨dst, .binOp .neq t x (.const .nilIface) u, T, pos, aft, g⟩ w (.bool true) w := by
  have hc : a.eval (.const .nilIface) = .nilIface := rfl
  simp [Gives, execOp, hl.ev hx, hc, eqGuard, binOp, run_eq_ifcS ht]
def concT (P : Program) (t : TypeId) : Bool := match P.underlying t with | some (.interface _) => false | some _ => true | none => false
theorem r_makeInterface {t : TypeId} {v : Value} (hl : Sl n L a) (hx : val L x = some v) (ht : concT P t = true) : Gives P a ⟨dst, .makeInterface t x, T, pos, aft, g⟩ w (.iface t v) w := by
  unfold concT at ht
  cases hu : P.underlying t with
  | none => rw [hu] at ht; cases ht
  | some d =>
    rw [hu] at ht
    simp only [Gives, execOp, hl.ev hx, Instr.makeInterface, Sem.run_bind, run_underlying hu, Result.andThen_ok]
    cases d <;> first | rfl | cases ht
theorem r_typeAssert {t u : TypeId} {v : Value} (hl : Sl n L a) (hx : val L x = some (.iface t v)) (ht : ptrT P t = true) : Gives P a ⟨dst, .typeAssert x u t false, T, pos, aft, g⟩ w v w := by
  unfold ptrT at ht
  split at ht
  · rename_i e hu
    simp [Gives, execOp, hl.ev hx, Instr.typeAssert, run_underlying hu]
  · cases ht
end str
section strw
variable {P : Program} {ops : Array Oper} {Q : Exit → Act → World → Prop} {n : Nat} {L : List (Nat × Value)} {D : List Nat} {w0 : World} {F G : List (Nat × Obj)} {a : Act} {w : World} {K : Act → World → Prop} {T : TypeId} {pos : String} {aft : Array Edge} {g : Option (Nat × Bool)}
/-- a load from a row that may be frozen -/
theorem w_loadG {d : Nat} {x : Operand} {t : TypeId} {b o : Nat} {l : List Value} {T' : TypeId} {fr : Nat × Nat} {v : Value} (hl : Sl n L a) (hh : Has D w0 F w) (hd : Nat.blt d n = true) (hg : GuardOk ops L g) (ht : oneOk P t = true)
    (hx : val L x = some (.pointer (some ⟨b, o, none⟩))) (hf : Find F b (.cells ⟨l⟩ T' fr) G) (hc : l[o]? = some v) (k : ∀ a', Sl n ((d, v) :: L) a' → K a' w) :
    OpW P ops Q ⟨some d, .load t x, T, pos, aft, g⟩ K a w :=
  wl_val hl hd hg (r_load hl hx ht (hh.mem b _ hf.mem) (by simpa using hc)) k
theorem run_bytes {f : Value → ByteArray → Sem (ForInStep ByteArray)} (hf : ∀ (x : Int) (s : ByteArray), ∃ s', (f (.int .u8 x) s).run P w = .ok (.yield s') w ∧ s'.size = s.size + 1) {cs : List Value} :
    ∀ (s : ByteArray), (∀ v, v ∈ cs → ∃ x : Int, v = .int .u8 x) → ∃ s', (forIn (m := Sem) cs s f).run P w = .ok s' w ∧ s'.size = s.size + cs.length := by
  induction cs with
  | nil => intro s _; exact ⟨s, rfl, rfl⟩
  | cons v cs ih =>
    intro s h
    obtain ⟨x, rfl⟩ := h v (List.mem_cons_self ..)
    obtain ⟨s1, h1, e1⟩ := hf x s
    obtain ⟨s', hs, e2⟩ := ih s1 (fun v hv => h v (List.mem_cons_of_mem _ hv))
    refine ⟨s', ?_, by rw [e2, e1, List.length_cons]; omega⟩
    rw [List.forIn_cons]
    simp only [Sem.run_bind, h1, Result.andThen_ok]
    exact hs
theorem run_bytes2 {f : Value → ByteArray → Sem (ForInStep ByteArray)} {cs : List Value} {s : ByteArray} {g : ByteArray → World → Result Value} (hb : ∀ v, v ∈ cs → ∃ x : Int, v = .int .u8 x)
    (hf : ∀ (x : Int) (s : ByteArray), ∃ s', (f (.int .u8 x) s).run P w = .ok (.yield s') w ∧ s'.size = s.size + 1) (hg : ∀ s, g s w = .ok (.string s) w) : ∃ s', ((forIn (m := Sem) cs s f).run P w).andThen g = .ok (.string s') w ∧ s'.size = s.size + cs.length := by
  obtain ⟨s', h, e⟩ := run_bytes hf s hb
  exact ⟨s', by rw [h]; exact hg s', e⟩
/-- the text of a slice of bytes: some text -/
theorem w_bytesToString {d : Nat} {x : Operand} {s t e : TypeId} {b o m cap : Nat} {l cs : List Value} {T' : TypeId} {fr : Nat × Nat} (hl : Sl n L a) (hh : Has D w0 F w) (hd : Nat.blt d n = true) (hg : GuardOk ops L g)
    (hs : P.underlying s = some (.slice e)) (ht : P.underlying t = some .string) (he : P.underlying e = some (.int .u8)) (hx : val L x = some (.slice (some ⟨b, o, none⟩) m cap)) (hf : Find F b (.cells ⟨l⟩ T' fr) G)
    (hc : (l.drop o).take m = cs) (hn : cs.length = m) (hb : ∀ v, v ∈ cs → ∃ x : Int, v = .int .u8 x) (k : ∀ t a', t.size = m → Sl n ((d, .string t) :: L) a' → K a' w) : OpW P ops Q ⟨some d, .convert s t x, T, pos, aft, g⟩ K a w := by
  subst hn
  have hr := run_loadCellsC (P := P) (hh.mem b _ hf.mem) hc
  have hq : ∃ s', (convert s t (.slice (some ⟨b, o, none⟩) cs.length cap)).run P w = .ok (.string s') w ∧ s'.size = ByteArray.empty.size + cs.length := by
    simp only [convert, Sem.run_bind, run_underlying hs, run_underlying ht, run_underlying he, Result.andThen_ok, Conv.bytesToString, hr, List.forIn_toArray]
    exact run_bytes2 hb (fun x s => ⟨_, rfl, ByteArray.size_push⟩) (fun s => rfl)
  obtain ⟨s', hq, hsz⟩ := hq
  refine wl_val hl hd hg (v := .string s') (w' := w) ?_ fun a' hl' => k s' a' (by rw [hsz]; simp) hl'
  simp [Gives, execOp, hl.ev hx, hq]
/-- the bytes of a text: a new row -/
theorem w_stringToBytes {d : Nat} {x : Operand} {s t e : TypeId} {v : ByteArray} (hl : Sl n L a) (hh : Has D w0 F w) (hd : Nat.blt d n = true) (hg : GuardOk ops L g)
    (hs : P.underlying s = some .string) (ht : P.underlying t = some (.slice e)) (he : P.underlying e = some (.int .u8)) (hx : val L x = some (.string v))
    (k : ∀ b cap l fr a' w', (∀ i, i < v.size → ∃ x : Int, l[i]? = some (.int .u8 x) ∧ 0 ≤ x ∧ x ≤ 255) → Sl n ((d, .slice (some ⟨b, 0, none⟩) v.size cap) :: L) a' → Has D w0 ((b, .cells ⟨l⟩ e fr) :: F) w' → K a' w') :
    OpW P ops Q ⟨some d, .convert s t x, T, pos, aft, g⟩ K a w := by
  have hr := run_bytes_of_string w s t e v hs ht he
  generalize hcap : grownCap w v.size 0 e = cap at hr
  refine wl_val hl hd hg (v := .slice (some ⟨w.heap.size, 0, none⟩) v.size cap) (w' := w.drew.alloc (.cells (bytesRow v cap) e ((bytesRow v cap).size, (bytesRow v cap).size + 1))) (by simp [Gives, execOp, hl.ev hx, hr]) fun a' hl' =>
    k _ _ (bytesRow v cap).toList ((bytesRow v cap).size, (bytesRow v cap).size + 1) a' _ (fun i hi => ?_) hl' (hh.drew.alloc _)
  refine ⟨(v.data[i]'hi).toNat, ?_, by omega, by have := (v.data[i]'hi).toNat_lt; omega⟩
  have hs' : i < v.data.size := hi
  have hg : v.data[i]? = some (v.data[i]'hi) := by simp [hs']
  simp [bytesRow, List.getElem?_append, hi, hg]
/-- the same, of a region that draws -/
theorem r_loadCG {dst : Option Nat} {x : Operand} {t : TypeId} {b o : Nat} {l : List Value} {T' : TypeId} {fr : Nat × Nat} {v : Value} (hl : Sl n L a) (hx : val L x = some (.pointer (some ⟨b, o, none⟩))) (ht : oneOk P t = true)
    (hm : Mem F w) (hf : Find F b (.cells ⟨l⟩ T' fr) G) (hc : l[o]? = some v) : Gives P a ⟨dst, .load t x, T, pos, aft, g⟩ w v w :=
  r_load hl hx ht (hm b _ hf.mem) (by simpa using hc)
theorem f_retCT {fn : Func} {R : Value → List (Nat × Obj) → Prop} {t t1 : Nat} {ty T' : TypeId} {b m : Nat} {l : List Value} {v1 : Value} {F' G G' : List (Nat × Obj)} (hl : Sl n L a) (hh : Has D w0 F w) (hr : fn.results = #[.cell t ty, .tmp t1]) (hv : look L t = some (.pointer (some ⟨b, 0, none⟩)))
    (ht : aggOk P ty m = true) (hf : Find F b (C l T') G') (hn : l.length = m) (h1 : look L t1 = some v1) (hp : Keeps F F' G) (hR : R (.tuple #[.agg ⟨l⟩, v1]) F') : bodyPost P fn (Post D w0 R) .ret a w :=
  ⟨hl.defers, .tuple #[.agg ⟨l⟩, v1], by simp [results, hr, hl.get t _ hv, hl.get t1 v1 h1, asAddr, run_loadVar_C ht (hh.mem b _ hf.mem) hn], F', hR, hh.keep hp⟩
theorem Has.nameT {A U : List (Nat × Obj)} (h : Has D w0 F w) (hp : Keeps F (A ++ U) G) : ∃ H, H = G ∧ Has D w0 (A ++ (H ++ U)) w :=
  ⟨G, rfl, (h.perm hp.perm).perm (by rw [List.append_assoc]; exact List.Perm.append_left A List.perm_append_comm)⟩
theorem has_tail1 {D : List Nat} {w0 w : World} {A B : List (Nat × Obj)} {x : Nat × Obj} (h : Has D w0 (x :: (A ++ B)) w) : Has D w0 (x :: (B ++ A)) w :=
  h.perm (List.Perm.cons x List.perm_append_comm)
end strw
/-- of a region that draws: guarded by what was itself left out -/
theorem d_skipU {P : Program} {ops : Array Oper} {Lt : List Nat} {Cw : World → Prop} {Q : Exit → Act → World → Prop} {n : Nat} {L : List (Nat × Value)} {a : Act} {w : World} {T : TypeId} {pos : String} {aft : Array Edge} {g : Option (Nat × Bool)} {fuel : Nat} {listed : Array Bool}
    {i d : Nat} {op : Op} (hl : Sl n L a) (hi : ops[i]? = some ⟨some d, op, T, pos, aft, g⟩) (hs : Region.noSelect ops = true) (hf : Region.free .any ops listed i = true) (hr : (Region.ready .any ops listed).contains i = true)
    (hlate : lateOk ops Lt = true) (hcl : closedB ops listed = true) (hd : Nat.blt d n = true) (hg : GuardU ops L g) (hQ : ∀ c a w, Q (.panic c) (a.put (some d) undef) w → Q (.panic c) a w) (hC : Cw w)
    (k : ∀ a', Sl n ((d, undef) :: L) a' → wpAnyR P ops Lt Cw Q fuel (listed.setIfInBounds i true) a' w) : wpAnyR P ops Lt Cw Q (fuel + 1) listed a w :=
  take_gen (Cc := fun _ => True) (oi := ⟨some d, op, T, pos, aft, g⟩) hi (Region.noSelect_spec hs) hQ hlate (fun _ _ => trivial) fuel listed a w (Region.free_spec hi hf) (closedB_spec hcl) (by simpa using hr)
    (.inr ⟨wanted_U hl (o := ⟨some d, op, T, pos, aft, g⟩) hg, rfl⟩) (fun _ => hC) (k _ (hl.put hd undef))
end Go.Eng

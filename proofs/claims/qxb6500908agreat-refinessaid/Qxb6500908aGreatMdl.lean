import Derived.Test.Qxb6500908aGreatEng
import Derived.Test.Qxb6500908aGreatMrg
set_option linter.unusedVariables false
set_option linter.unusedSimpArgs false
namespace Go.Eng
set_option linter.unusedSectionVars false
/-! maps from which entries may be deleted: entries with the times of their births -/
open Go.ChangeMaps (setBlock)
section mapd
variable {κ : Type} [DecidableEq κ]
structure ME (κ : Type) where
  ky : κ
  vl : Value
  bo : Nat
def ME.ent (k : κ → Value) (p : ME κ) : MapEntry := { key := k p.ky, val := p.vl, born := p.bo }
/-- the map's block -/
def MD (k : κ → Value) (l : List (ME κ)) (nb : Nat) : Obj := .map ⟨l.map (ME.ent k)⟩ nb
def dfind (l : List (ME κ)) (a : κ) : Option (Nat × Value) := match l with
  | [] => none
  | p :: l => if a = p.ky then some (0, p.vl) else (dfind l a).map fun q => (q.1 + 1, q.2)
def dget (l : List (ME κ)) (a : κ) : Option Value := (dfind l a).map (·.2)
theorem findAsking_D {P : Program} {kt : TypeId} {k : κ → Value} {w : World} (h : ∀ a b, (Op.equal kt (k a) (k b)).run P w = .ok (decide (a = b)) w) (a : κ) : ∀ (l : List (ME κ)) (j : Nat),
    (Instr.findAsking kt (k a) (l.map (ME.ent k)) j).run P w = .ok ((dfind l a).map fun q => (q.1 + j, q.2)) w
  | [], _ => rfl
  | p :: l, j => by
    rw [List.map_cons]
    unfold Instr.findAsking dfind
    show (do let eq ← Op.equal kt (k a) (ME.ent k p).key; if eq = true then pure (some (j, (ME.ent k p).val)) else Instr.findAsking kt (k a) (l.map (ME.ent k)) (j + 1)).run P w = _
    simp only [ME.ent, Sem.run_bind, h, Result.andThen_ok]
    by_cases e : a = p.ky
    · rw [if_pos e, decide_eq_true e]; simp
    · rw [if_neg e, decide_eq_false e]
      simp only [Bool.false_eq_true, if_false]
      have := findAsking_D h a l (j + 1)
      refine this.trans ?_
      cases dfind l a with
      | none => rfl
      | some q => simp; omega
theorem map_erase {α β : Type} (f : α → β) : ∀ (l : List α) (i : Nat), (l.map f).eraseIdx i = (l.eraseIdx i).map f
  | [], _ => rfl
  | x :: l, 0 => rfl
  | x :: l, i + 1 => by simp [map_erase f l i]
structure KeyD (P : Program) (kt : TypeId) (k : κ → Value) : Prop where
  fd : ∀ (a : κ) (l : List (ME κ)) (w : World), (Instr.findKey kt (k a) (l.map (ME.ent k))).run P w = .ok (dfind l a) w
  ck : ∀ (a : κ) (e : Bool) (w : World), (Instr.checkKey e 10000 kt (k a)).run P w = .ok () w
theorem KeyD.wide {P : Program} {kt : TypeId} {k : κ → Value} {m d : Nat} {s : List TypeDesc} (xs : κ → List Value) (lits : κ → List Lit) (he : eqOk P m kt = true) (hs : shapeT P d kt = some s) (hk : ∀ a, k a = .agg ⟨xs a⟩) (hu : ∀ a, unlitL (xs a) = some (lits a)) (ho : ∀ a, LitsFit s (lits a)) (hi : ∀ a b, lits a = lits b → a = b) (hf : ∀ a, (Value.agg ⟨xs a⟩).formed P kt = true) (bits : ∀ a, Instr.sameBits 10000 (k a) (k a) = true) : KeyD P kt k := by
  have heq : ∀ (w : World) a b, (Op.equal kt (k a) (k b)).run P w = .ok (decide (a = b)) w := fun w a b => by
    rw [hk a, hk b, run_eqA he hs (hu a) (hu b) (ho a) (ho b)]
    have h1 := eqLits_iff (ho a).ok (ho b).ok
    congr 1
    rw [Bool.eq_iff_iff, h1, decide_eq_true_eq]
    exact ⟨hi a b, fun e => by rw [e]⟩
  have hko := KeyOk.wide xs lits he hs hk hu ho hi hf bits
  have he' := he
  unfold eqOk at he'
  simp only [Bool.and_eq_true] at he'
  obtain ⟨⟨⟨hkt, hm⟩, _⟩, hw⟩ := he'
  refine ⟨fun a l w => ?_, hko.ck⟩
  rw [run_findKey_eq w hw, findAsking_D (heq w) a l 0]
  cases dfind l a <;> simp
section rules
variable {P : Program} {n : Nat} {L : List (Nat × Value)} {a : Act} {w : World} {T : TypeId} {pos : String} {aft : Array Edge} {g : Option (Nat × Bool)} {dst : Option Nat}
variable {ops : Array Oper} {Q : Exit → Act → World → Prop} {K : Act → World → Prop} {D : List Nat} {w0 : World} {F G G1 : List (Nat × Obj)}
variable {x y : Operand} {t kt et : TypeId} {z : Value} {b r nb : Nat} {k : κ → Value} {l : List (ME κ)} {ak : κ}
theorem r_lookupD (hk : KeyD P kt k) (ht : P.underlying t = some (.map kt et)) (hz : zeroOk P et z) (hl : Sl n L a) (hx : val L x = some (.map (some b))) (hy : val L y = some (k ak)) (hm : w.heap[b]? = some (MD k l nb)) :
    Gives P a ⟨dst, .lookup t x y true, T, pos, aft, g⟩ w (.tuple #[(dget l ak).getD z, .bool (dget l ak).isSome]) w := by
  simp only [Gives, execOp, hl.ev hx, hl.ev hy, Instr.lookup, Sem.run_bind, run_underlying ht, getObj, Sem.run, hm, MD, Result.andThen_ok, Sem.run_pure, hk.ck ak, hk.fd ak l w, Result.andThen]
  unfold dget
  cases dfind l ak with
  | none => simp [run_zero hz]
  | some q => simp
theorem r_mapUpdD {u : Operand} {v : Value} (hk : KeyD P kt k) (ht : P.underlying t = some (.map kt et)) (hl : Sl n L a) (hx : val L x = some (.map (some b))) (hy : val L y = some (k ak)) (hu : val L u = some v) (hm : w.heap[b]? = some (MD k l nb)) (hf : dfind l ak = none) :
    Does P a ⟨dst, .mapUpdate t x y u, T, pos, aft, g⟩ w { w with heap := w.heap.setIfInBounds b (MD k (l ++ [⟨ak, v, nb⟩]) (nb + 1)) } := by
  simp only [Does, execOp, hl.ev hx, hl.ev hy, hl.ev hu, Instr.mapUpdate, Sem.run_bind, run_underlying ht, getObj, Sem.run, hm, MD, Result.andThen_ok, Sem.run_pure, hk.ck ak, hk.fd ak l w, Result.andThen, hf]
  simp [setObj, Sem.run, hm, MD, ME.ent]
theorem w_mapUpdD {u : Operand} {v : Value} (hk : KeyD P kt k) (ht : P.underlying t = some (.map kt et)) (hl : Sl n L a) (hh : Has D w0 F w) (hg : GuardOk ops L g)
    (hx : val L x = some (.map (some b))) (hy : val L y = some (k ak)) (hu : val L u = some v) (hf : Find F b (MD k l nb) G) (hn : dfind l ak = none) (kk : ∀ w', Has D w0 ((b, MD k (l ++ [⟨ak, v, nb⟩]) (nb + 1)) :: G) w' → K a w') : OpW P ops Q ⟨none, .mapUpdate t x y u, T, pos, aft, g⟩ K a w :=
  wl_unit hl hg (r_mapUpdD hk ht hl hx hy hu (hh.mem _ _ hf.mem) hn) (kk _ (hh.write hf rfl rfl rfl rfl))
theorem w_makeMapD {d : Nat} (k : κ → Value) (hl : Sl n L a) (hh : Has D w0 F w) (hd : Nat.blt d n = true) (hg : GuardOk ops L g)
    (kk : ∀ b a' w', Sl n ((d, .map (some b)) :: L) a' → Has D w0 ((b, MD k [] 0) :: F) w' → K a' w') : OpW P ops Q ⟨some d, .makeMap t none, T, pos, aft, g⟩ K a w := by
  refine wl_val hl hd hg (v := .map (some w.heap.size)) (w' := w.alloc (MD k [] 0)) ?_ fun a' hl' => kk _ a' _ hl' (hh.alloc (MD k [] 0))
  simp [Gives, execOp, Instr.makeMap, newObj, Sem.run, MD]
theorem r_lenD {d : Nat} (ht : P.underlying t = some (.map kt et)) (hl : Sl n L a) (hx : val L x = some (.map (some b))) (hm : w.heap[b]? = some (MD k l nb)) :
    Gives P a ⟨some d, .call { callee := .builtin .len, args := #[x], argTypes := #[t] }, T, pos, aft, g⟩ w (.int .i64 (l.length : Int)) w := by
  simp [Gives, execOp, resolve, invoke, builtin, hl.ev hx, Builtin.len_, run_underlying ht, goInt, getObj, Sem.run, hm, MD]
theorem wl_valD {op : Op} {v : Value} {w' : World} (hl : Sl n L a) (hg : GuardOk ops L g)
    (hr : Gives P a ⟨none, op, T, pos, aft, g⟩ w v w') (k : K a w') :
    OpW P ops Q ⟨none, op, T, pos, aft, g⟩ K a w := by
  unfold OpW
  rw [if_pos (wanted_ok hl (o := ⟨none, op, T, pos, aft, g⟩) hg)]
  left
  unfold Oper.wp
  rw [hr]
  exact k
/-- an entry that is there is deleted -/
theorem w_deleteD {i : Nat} {v : Value} {ts : Array TypeId} (hts : ts[0]? = some t) (hk : KeyD P kt k) (ht : P.underlying t = some (.map kt et)) (hl : Sl n L a) (hh : Has D w0 F w) (hg : GuardOk ops L g)
    (hx : val L x = some (.map (some b))) (hy : val L y = some (k ak)) (hf : Find F b (MD k l nb) G) (hn : dfind l ak = some (i, v)) (kk : ∀ w', Has D w0 ((b, MD k (l.eraseIdx i) nb) :: G) w' → K a w') : OpW P ops Q ⟨none, .call { callee := .builtin .delete, args := #[x, y], argTypes := ts }, T, pos, aft, g⟩ K a w := by
  have hm := hh.mem _ _ hf.mem
  have hb : b < w.heap.size := by
    rcases Nat.lt_or_ge b w.heap.size with q | q
    · exact q
    · rw [Array.getElem?_eq_none q] at hm; cases hm
  refine wl_valD hl hg (v := .tuple #[]) (w' := { w with heap := w.heap.setIfInBounds b (MD k (l.eraseIdx i) nb) }) ?_ (kk _ (hh.write hf rfl rfl rfl rfl))
  simp [Gives, execOp, resolve, invoke, builtin, hl.ev hx, hl.ev hy, Builtin.delete_, hts, run_underlying ht, getObj, Sem.run, hm, MD, hk.ck ak, hk.fd ak l w, hn, setObj]
  rw [map_erase]
/-! ranging -/
theorem w_rangeD {d : Nat} (ht : P.underlying t = some (.map kt et)) (hl : Sl n L a) (hh : Has D w0 F w) (hd : Nat.blt d n = true) (hg : GuardOk ops L g)
    (hx : val L x = some (.map (some b))) (hm : w.heap[b]? = some (MD k l nb)) (kk : ∀ r a' w', Sl n ((d, .pointer (some ⟨r, 0, none⟩)) :: L) a' → Has D w0 ((r, IT b nb []) :: F) w' → K a' w') : OpW P ops Q ⟨some d, .range t x, T, pos, aft, g⟩ K a w := by
  have hr := run_range_map (P := P) w t kt et b _ _ ht hm
  have hgv : Gives P a ⟨some d, .range t x, T, pos, aft, g⟩ w (.pointer (some ⟨w.heap.size, 0, none⟩)) (w.alloc (IT b nb [])) := by
    simp only [Gives, execOp, hl.ev hx, Sem.run_bind, hr, Result.andThen]
    rfl
  exact wl_val hl hd hg hgv fun a' hl' => kk _ a' _ hl' (hh.alloc _)
theorem w_nextD {d : Nat} {seen : List Nat} (hlt : ∀ p ∈ l, p.bo < nb) (hl : Sl n L a) (hh : Has D w0 F w) (hd : Nat.blt d n = true) (hg : GuardOk ops L g)
    (hx : val L x = some (.pointer (some ⟨r, 0, none⟩))) (hfr : Find F r (IT b nb seen) G) (hm : w.heap[b]? = some (MD k l nb))
    (k0 : (∀ p ∈ l, p.bo ∈ seen) → ∀ a', Sl n ((d, .tuple #[.bool false]) :: L) a' → K a' w)
    (k1 : ∀ p, p ∈ l → p.bo ∉ seen → ∀ a' w', Sl n ((d, .tuple #[.bool true, k p.ky, p.vl]) :: L) a' → Has D w0 ((r, IT b nb (seen ++ [p.bo])) :: G) w' → K a' w') : OpW P ops Q ⟨some d, .next x false, T, pos, aft, g⟩ K a w := by
  have h1 := hh.mem _ _ hfr.mem
  rcases run_next_at (P := P) w T r b nb nb ⟨seen⟩ ⟨l.map (ME.ent k)⟩ nb h1 hm (fun e he => by
      obtain ⟨p, q1, q2⟩ := List.mem_map.1 (show e ∈ l.map (ME.ent k) from he)
      rw [← q2]
      exact hlt p q1) (Nat.le_refl _) with ⟨e1, e2⟩ | ⟨e, he, w1, hw1, e2⟩
  · have hgv : Gives P a ⟨some d, .next x false, T, pos, aft, g⟩ w (.tuple #[.bool false]) w := by
      simp only [Gives, execOp, hl.ev hx, Sem.run_bind, e2, Result.andThen]
      rfl
    refine wl_val hl hd hg hgv fun a' hl' => k0 (fun p hp => ?_) a' hl'
    have h0 := Array.eq_empty_of_size_eq_zero e1
    unfold leftOf at h0
    rw [Array.filter_eq_empty_iff] at h0
    have h1 := h0 (ME.ent k p) (by simpa using ⟨p, hp, rfl⟩)
    simpa [ME.ent] using h1
  · unfold leftOf at he
    simp at he
    obtain ⟨⟨p, q1, q2⟩, q3⟩ := he
    subst q2
    have q3 : p.bo ∉ seen := by simpa [ME.ent] using q3
    have hgv : Gives P a ⟨some d, .next x false, T, pos, aft, g⟩ w (.tuple #[.bool true, k p.ky, p.vl]) (setBlock w1 r (.mapIter (some b) nb ((Array.mk seen).push p.bo) nb)) := by
      simp only [Gives, execOp, hl.ev hx, Sem.run_bind, e2, Result.andThen]
      rfl
    have hh1 : Has D w0 F w1 := by rcases hw1 with rfl | rfl; exact hh; exact hh.drew
    have hh2 := hh1.write hfr (o' := IT b nb (seen ++ [p.bo])) (w' := setBlock w1 r (.mapIter (some b) nb ((Array.mk seen).push p.bo) nb)) (by unfold setBlock IT; simp) rfl rfl rfl
    exact wl_val hl hd hg hgv fun a' hl' => k1 p q1 q3 a' _ hl' hh2
theorem w_entryD {d : Nat} {seen : List Nat} {p : ME κ} (hp : p ∈ l) (hnd : (l.map ME.bo).Nodup) (hl : Sl n L a) (hh : Has D w0 F w) (hd : Nat.blt d n = true) (hg : GuardOk ops L g)
    (hx : val L x = some (.pointer (some ⟨r, 0, none⟩))) (hfr : Find F r (IT b nb (seen ++ [p.bo])) G) (hm : w.heap[b]? = some (MD k l nb))
    (kk : ∀ a', Sl n ((d, .tuple #[k p.ky, p.vl]) :: L) a' → K a' w) : OpW P ops Q ⟨some d, .entry x, T, pos, aft, g⟩ K a w := by
  have h1 := hh.mem _ _ hfr.mem
  have hr := run_entry_at (P := P) w r b nb ⟨seen⟩ ⟨l.map (ME.ent k)⟩ nb (ME.ent k p) (by rw [h1]; unfold IT; simp [ME.ent]) hm (List.mem_map.2 ⟨p, hp, rfl⟩) (by
    show ((l.map (ME.ent k)).map (·.born)).Nodup
    rw [List.map_map]; exact hnd)
  have hgv : Gives P a ⟨some d, .entry x, T, pos, aft, g⟩ w (.tuple #[k p.ky, p.vl]) w := by
    simp only [Gives, execOp, hl.ev hx, Sem.run_bind, hr, Result.andThen]
    rfl
  exact wl_val hl hd hg hgv kk
end rules
end mapd
end Go.Eng

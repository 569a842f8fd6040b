import Derived.Test.Qxb6500908aGreatEng
import Derived.DeepKeys3
set_option linter.unusedVariables false
set_option linter.unusedSimpArgs false
namespace Go.Eng
set_option linter.unusedSectionVars false
/-! maps whose keys are told apart at once (integers, strings, bools), from which nothing is deleted -/
section maps
variable {κ : Type} [DecidableEq κ]
def ents (k : κ → Value) : Nat → List (κ × Value) → List MapEntry
  | _, [] => []
  | i, p :: l => { key := k p.1, val := p.2, born := i } :: ents k (i + 1) l
/-- the map's block -/
def MO (k : κ → Value) (l : List (κ × Value)) : Obj := .map ⟨ents k 0 l⟩ l.length
def mget (l : List (κ × Value)) (a : κ) : Option Value := match l with
  | [] => none
  | p :: l => if a = p.1 then some p.2 else mget l a
def mput (l : List (κ × Value)) (a : κ) (v : Value) : List (κ × Value) := match l with
  | [] => [(a, v)]
  | p :: l => if a = p.1 then (p.1, v) :: l else p :: mput l a v
def mfind (l : List (κ × Value)) (a : κ) : Option (Nat × Value) := match l with
  | [] => none
  | p :: l => if a = p.1 then some (0, p.2) else (mfind l a).map fun q => (q.1 + 1, q.2)
theorem mfind_get (l : List (κ × Value)) (a : κ) : (mfind l a).map (·.2) = mget l a := by
  induction l with
  | nil => rfl
  | cons p l ih =>
    unfold mfind mget
    split
    · rfl
    · rw [← ih]; cases mfind l a <;> rfl
theorem mget_mput (l : List (κ × Value)) (a b : κ) (v : Value) : mget (mput l a v) b = if b = a then some v else mget l b := by
  induction l with
  | nil => simp [mput, mget]
  | cons p l ih =>
    unfold mput
    split
    · rename_i h
      subst h
      simp only [mget]
      split <;> rfl
    · rename_i h
      simp only [mget, ih]
      split
      · rename_i h2
        subst h2
        rw [if_neg (fun e => h e.symm)]
      · rfl
theorem mput_len (l : List (κ × Value)) (a : κ) (v : Value) : (mput l a v).length ≤ l.length + 1 := by
  induction l with
  | nil => simp [mput]
  | cons p l ih => unfold mput; split <;> simp <;> omega

theorem findNow_ents {desc : TypeDesc} {k : κ → Value} (h : ∀ a b, Instr.sameNow desc (k a) (k b) = some (decide (a = b))) (a : κ) : ∀ (l : List (κ × Value)) (i j : Nat),
    Instr.findNow desc (k a) (ents k i l) j = some ((mfind l a).map fun q => (q.1 + j, q.2))
  | [], _, _ => rfl
  | p :: l, i, j => by
    unfold ents Instr.findNow mfind
    simp only [h]
    by_cases e : a = p.1
    · rw [if_pos e, decide_eq_true e]; simp
    · rw [if_neg e, decide_eq_false e]
      simp only [findNow_ents h a l (i + 1) (j + 1)]
      cases mfind l a with
      | none => rfl
      | some q => simp; omega

/-- how a key type's keys are written as values -/
structure KeyOk (P : Program) (kt : TypeId) (k : κ → Value) : Prop where
  fd : ∀ (a : κ) (l : List (κ × Value)) (w : World), (Instr.findKey kt (k a) (ents k 0 l)).run P w = .ok (mfind l a) w
  ck : ∀ (a : κ) (e : Bool) (w : World), (Instr.checkKey e 10000 kt (k a)).run P w = .ok () w
  bits : ∀ a, Instr.sameBits 10000 (k a) (k a) = true
theorem run_findKey {P : Program} {kt : TypeId} {k : κ → Value} (h : KeyOk P kt k) (a : κ) (l : List (κ × Value)) (w : World) :
    (Instr.findKey kt (k a) (ents k 0 l)).run P w = .ok (mfind l a) w := h.fd a l w
theorem run_checkKey {P : Program} {kt : TypeId} {k : κ → Value} (h : KeyOk P kt k) (a : κ) (e : Bool) (w : World) : (Instr.checkKey e 10000 kt (k a)).run P w = .ok () w := h.ck a e w
/-- keys that are told apart at once -/
theorem KeyOk.now {P : Program} {kt : TypeId} {k : κ → Value} (und : ∃ desc, P.underlying kt = some desc ∧ (∀ a b, Instr.sameNow desc (k a) (k b) = some (decide (a = b))) ∧ (∀ ms, desc ≠ .interface ms) ∧ (∀ m e, desc ≠ .array m e) ∧ (∀ fs, desc ≠ .struct fs)) (bits : ∀ a, Instr.sameBits 10000 (k a) (k a) = true) : KeyOk P kt k := by
  refine ⟨fun a l w => ?_, fun a e w => ?_, bits⟩
  · obtain ⟨desc, hu, hs, _⟩ := und
    unfold Instr.findKey
    simp only [Sem.run_bind, run_underlying hu, Result.andThen_ok, findNow_ents hs a l 0 0]
    cases mfind l a <;> simp
  · obtain ⟨desc, hu, _, h1, h2, h3⟩ := und
    unfold Instr.checkKey
    simp only [Sem.run_bind, run_underlying hu, Result.andThen_ok]
    cases desc <;> first | exact absurd rfl (h1 _) | exact absurd rfl (h2 _ _) | exact absurd rfl (h3 _) | rfl
theorem findAsking_ents {P : Program} {kt : TypeId} {k : κ → Value} {w : World} (h : ∀ a b, (Op.equal kt (k a) (k b)).run P w = .ok (decide (a = b)) w) (a : κ) : ∀ (l : List (κ × Value)) (i j : Nat),
    (Instr.findAsking kt (k a) (ents k i l) j).run P w = .ok ((mfind l a).map fun q => (q.1 + j, q.2)) w
  | [], _, _ => rfl
  | p :: l, i, j => by
    unfold ents Instr.findAsking mfind
    simp only [Sem.run_bind, h, Result.andThen_ok]
    by_cases e : a = p.1
    · rw [if_pos e, decide_eq_true e]; simp
    · rw [if_neg e, decide_eq_false e]
      simp only [Bool.false_eq_true, if_false, findAsking_ents h a l (i + 1) (j + 1)]
      cases mfind l a with
      | none => rfl
      | some q => simp; omega
/-- keys that are structs or arrays of literals -/
theorem KeyOk.wide {P : Program} {kt : TypeId} {k : κ → Value} {m d : Nat} {s : List TypeDesc} (xs : κ → List Value) (lits : κ → List Lit) (he : eqOk P m kt = true) (hs : shapeT P d kt = some s) (hk : ∀ a, k a = .agg ⟨xs a⟩) (hu : ∀ a, unlitL (xs a) = some (lits a)) (ho : ∀ a, LitsFit s (lits a)) (hi : ∀ a b, lits a = lits b → a = b) (hf : ∀ a, (Value.agg ⟨xs a⟩).formed P kt = true) (bits : ∀ a, Instr.sameBits 10000 (k a) (k a) = true) : KeyOk P kt k := by
  have heq : ∀ (w : World) a b, (Op.equal kt (k a) (k b)).run P w = .ok (decide (a = b)) w := fun w a b => by
    rw [hk a, hk b, run_eqA he hs (hu a) (hu b) (ho a) (ho b)]
    have h1 := eqLits_iff (ho a).ok (ho b).ok
    congr 1
    rw [Bool.eq_iff_iff, h1, decide_eq_true_eq]
    exact ⟨hi a b, fun e => by rw [e]⟩
  have he' := he
  unfold eqOk at he'
  simp only [Bool.and_eq_true] at he'
  obtain ⟨⟨⟨hkt, hm⟩, _⟩, hw⟩ := he'
  have hm' := Nat.le_of_ble_eq_true hm
  refine ⟨fun a l w => ?_, fun a e w => ?_, bits⟩
  · rw [run_findKey_eq w hw, findAsking_ents (heq w) a l 0 0]
    cases mfind l a <;> simp
  · have h9 := run_checkKey_deep (P := P) e (10000 - m) m kt hkt w d (k a) (lits a) (by rw [hk a]; exact hf a) (by rw [hk a]; show P.keyLits d kt (xs a) = _; rw [unlitL_eq (hu a)]; exact keyLits_shape d kt s (lits a) hs (ho a).ok)
    rw [show 10000 - m + m = 10000 by omega] at h9
    exact h9

theorem ents_length (k : κ → Value) (l : List (κ × Value)) (i : Nat) : (ents k i l).length = l.length := by
  induction l generalizing i with
  | nil => rfl
  | cons p l ih => simp [ents, ih]
theorem ents_none (k : κ → Value) (a : κ) (v : Value) : ∀ (l : List (κ × Value)) (i : Nat), mfind l a = none → ents k i l ++ [{ key := k a, val := v, born := i + l.length }] = ents k i (mput l a v) ∧ (mput l a v).length = l.length + 1
  | [], i, _ => by simp [ents, mput]
  | p :: l, i, h => by
    unfold mfind at h
    by_cases e : a = p.1
    · rw [if_pos e] at h; cases h
    · rw [if_neg e] at h
      have h' : mfind l a = none := by cases hm : mfind l a with | none => rfl | some q => rw [hm] at h; cases h
      obtain ⟨h1, h2⟩ := ents_none k a v l (i + 1) h'
      unfold mput
      rw [if_neg e]
      constructor
      · simp only [ents, List.cons_append, List.length_cons]
        rw [← h1, show i + (l.length + 1) = i + 1 + l.length by omega]
      · simp [h2]
theorem ents_some (k : κ → Value) (a : κ) (v : Value) : ∀ (l : List (κ × Value)) (i : Nat) (q : Nat × Value), mfind l a = some q →
    (ents k i l).modify q.1 (fun e => { e with key := k a, val := v }) = ents k i (mput l a v) ∧ (mput l a v).length = l.length
  | [], _, _, h => by cases h
  | p :: l, i, q, h => by
    unfold mfind at h
    unfold mput
    by_cases e : a = p.1
    · rw [if_pos e] at h
      injection h with h
      subst h
      rw [if_pos e]
      subst e
      exact ⟨rfl, rfl⟩
    · rw [if_neg e] at h
      rw [if_neg e]
      cases hm : mfind l a with
      | none => rw [hm] at h; cases h
      | some q' =>
        rw [hm] at h
        injection h with h
        subst h
        obtain ⟨h1, h2⟩ := ents_some k a v l (i + 1) q' hm
        constructor
        · simp only [ents, List.modify_succ_cons, h1]
        · simp [h2]
theorem ents_key (k : κ → Value) (a : κ) : ∀ (l : List (κ × Value)) (i : Nat) (q : Nat × Value), mfind l a = some q → ((ents k i l)[q.1]?).map (·.key) = some (k a)
  | [], _, _, h => by cases h
  | p :: l, i, q, h => by
    unfold mfind at h
    by_cases e : a = p.1
    · rw [if_pos e] at h
      injection h with h
      subst h; subst e
      rfl
    · rw [if_neg e] at h
      cases hm : mfind l a with
      | none => rw [hm] at h; cases h
      | some q' =>
        rw [hm] at h
        injection h with h
        subst h
        simpa [ents] using ents_key k a l (i + 1) q' hm

section rules
variable {P : Program} {n : Nat} {L : List (Nat × Value)} {a : Act} {w : World} {T : TypeId} {pos : String} {aft : Array Edge} {g : Option (Nat × Bool)} {dst : Option Nat}
variable {ops : Array Oper} {Q : Exit → Act → World → Prop} {K : Act → World → Prop} {D : List Nat} {w0 : World} {F G : List (Nat × Obj)}
variable {x y : Operand} {t kt et : TypeId} {z : Value} {b : Nat} {k : κ → Value} {l : List (κ × Value)} {ak : κ}

theorem r_lookup (hk : KeyOk P kt k) (ht : P.underlying t = some (.map kt et)) (hz : zeroOk P et z) (hl : Sl n L a) (hx : val L x = some (.map (some b))) (hy : val L y = some (k ak)) (hm : w.heap[b]? = some (MO k l)) :
    Gives P a ⟨dst, .lookup t x y false, T, pos, aft, g⟩ w ((mget l ak).getD z) w := by
  have e : (Array.mk (ents k 0 l)).toList = ents k 0 l := rfl
  simp only [Gives, execOp, hl.ev hx, hl.ev hy, Instr.lookup, Sem.run_bind, run_underlying ht, getObj, Sem.run, hm, MO, Result.andThen_ok, Sem.run_pure, run_checkKey hk ak, run_findKey hk ak l w, Result.andThen]
  rw [← mfind_get]
  cases mfind l ak with
  | none => simp [run_zero hz]
  | some q => simp
theorem r_lookup2 (hk : KeyOk P kt k) (ht : P.underlying t = some (.map kt et)) (hz : zeroOk P et z) (hl : Sl n L a) (hx : val L x = some (.map (some b))) (hy : val L y = some (k ak)) (hm : w.heap[b]? = some (MO k l)) :
    Gives P a ⟨dst, .lookup t x y true, T, pos, aft, g⟩ w (.tuple #[(mget l ak).getD z, .bool (mget l ak).isSome]) w := by
  simp only [Gives, execOp, hl.ev hx, hl.ev hy, Instr.lookup, Sem.run_bind, run_underlying ht, getObj, Sem.run, hm, MO, Result.andThen_ok, Sem.run_pure, run_checkKey hk ak, run_findKey hk ak l w, Result.andThen]
  rw [← mfind_get]
  cases mfind l ak with
  | none => simp [run_zero hz]
  | some q => simp
theorem r_mapUpdate {u : Operand} {v : Value} (hk : KeyOk P kt k) (ht : P.underlying t = some (.map kt et)) (hl : Sl n L a) (hx : val L x = some (.map (some b))) (hy : val L y = some (k ak)) (hu : val L u = some v) (hm : w.heap[b]? = some (MO k l)) :
    Does P a ⟨dst, .mapUpdate t x y u, T, pos, aft, g⟩ w { w with heap := w.heap.setIfInBounds b (MO k (mput l ak v)) } := by
  simp only [Does, execOp, hl.ev hx, hl.ev hy, hl.ev hu, Instr.mapUpdate, Sem.run_bind, run_underlying ht, getObj, Sem.run, hm, MO, Result.andThen_ok, Sem.run_pure, run_checkKey hk ak, run_findKey hk ak l w, Result.andThen]
  cases hf : mfind l ak with
  | none =>
    obtain ⟨h1, h2⟩ := ents_none k ak v l 0 hf
    rw [Nat.zero_add] at h1
    simp [setObj, Sem.run, hm, MO, ← h1, h2]
  | some q =>
    obtain ⟨h1, h2⟩ := ents_some k ak v l 0 q hf
    have h3 := ents_key k ak l 0 q hf
    have hb := hk.bits ak
    simp [Instr.keyThatStays, h3, hb, setObj, Sem.run, hm, MO, ← h1, h2]
theorem r_makeMap : Gives P a ⟨dst, .makeMap t none, T, pos, aft, g⟩ w (.map (some w.heap.size)) (w.alloc (MO k [])) := by
  simp [Gives, execOp, Instr.makeMap, newObj, Sem.run, MO, ents]

theorem w_makeMap {d : Nat} (k : κ → Value) (hl : Sl n L a) (hh : Has D w0 F w) (hd : Nat.blt d n = true) (hg : GuardOk ops L g)
    (kk : ∀ b a' w', Sl n ((d, .map (some b)) :: L) a' → Has D w0 ((b, MO k []) :: F) w' → K a' w') : OpW P ops Q ⟨some d, .makeMap t none, T, pos, aft, g⟩ K a w :=
  wl_val hl hd hg r_makeMap fun a' hl' => kk _ a' _ hl' (hh.alloc (MO k []))
theorem w_lookup {d : Nat} (hk : KeyOk P kt k) (ht : P.underlying t = some (.map kt et)) (hz : zeroOk P et z) (hl : Sl n L a) (hh : Has D w0 F w) (hd : Nat.blt d n = true) (hg : GuardOk ops L g)
    (hx : val L x = some (.map (some b))) (hy : val L y = some (k ak)) (hf : Find F b (MO k l) G) (kk : ∀ a', Sl n ((d, (mget l ak).getD z) :: L) a' → K a' w) : OpW P ops Q ⟨some d, .lookup t x y false, T, pos, aft, g⟩ K a w :=
  wl_val hl hd hg (r_lookup hk ht hz hl hx hy (hh.mem _ _ hf.mem)) kk
theorem w_lookup2 {d : Nat} (hk : KeyOk P kt k) (ht : P.underlying t = some (.map kt et)) (hz : zeroOk P et z) (hl : Sl n L a) (hh : Has D w0 F w) (hd : Nat.blt d n = true) (hg : GuardOk ops L g)
    (hx : val L x = some (.map (some b))) (hy : val L y = some (k ak)) (hf : Find F b (MO k l) G) (kk : ∀ a', Sl n ((d, .tuple #[(mget l ak).getD z, .bool (mget l ak).isSome]) :: L) a' → K a' w) : OpW P ops Q ⟨some d, .lookup t x y true, T, pos, aft, g⟩ K a w :=
  wl_val hl hd hg (r_lookup2 hk ht hz hl hx hy (hh.mem _ _ hf.mem)) kk
theorem w_mapUpdate {u : Operand} {v : Value} (hk : KeyOk P kt k) (ht : P.underlying t = some (.map kt et)) (hl : Sl n L a) (hh : Has D w0 F w) (hg : GuardOk ops L g)
    (hx : val L x = some (.map (some b))) (hy : val L y = some (k ak)) (hu : val L u = some v) (hf : Find F b (MO k l) G) (kk : ∀ w', Has D w0 ((b, MO k (mput l ak v)) :: G) w' → K a w') : OpW P ops Q ⟨none, .mapUpdate t x y u, T, pos, aft, g⟩ K a w :=
  wl_unit hl hg (r_mapUpdate hk ht hl hx hy hu (hh.mem _ _ hf.mem)) (kk _ (hh.write hf rfl rfl rfl rfl))
/-- the length of a map -/
theorem w_lenM {d : Nat} (ht : P.underlying t = some (.map kt et)) (hl : Sl n L a) (hh : Has D w0 F w) (hd : Nat.blt d n = true) (hg : GuardOk ops L g)
    (hx : val L x = some (.map (some b))) (hf : Find F b (MO k l) G) (kk : ∀ a', Sl n ((d, .int .i64 (l.length : Int)) :: L) a' → K a' w) : OpW P ops Q ⟨some d, .call { callee := .builtin .len, args := #[x], argTypes := #[t] }, T, pos, aft, g⟩ K a w := by
  refine wl_val hl hd hg (v := .int .i64 (l.length : Int)) (w' := w) ?_ kk
  have hm := hh.mem _ _ hf.mem
  simp [Gives, execOp, resolve, invoke, builtin, hl.ev hx, Builtin.len_, run_underlying ht, goInt, getObj, Sem.run, hm, MO, ents_length]
end rules
/-- integer keys -/
def kInt (kd : IntKind) (z : Int) : Value := .int kd z
theorem keyInt {P : Program} {kt : TypeId} {kd : IntKind} (h : P.underlying kt = some (.int kd)) : KeyOk P kt (kInt kd) := by
  refine KeyOk.now ⟨_, h, fun a b => ?_, fun _ e => ?_, fun _ _ e => ?_, fun _ e => ?_⟩ (fun a => ?_)
  · simp only [kInt, Instr.sameNow, if_true]
    by_cases e : a = b
    · simp [e]
    · simp [e]
  · cases e
  · cases e
  · cases e
  · simp [kInt, Instr.sameBits]
end maps
end Go.Eng

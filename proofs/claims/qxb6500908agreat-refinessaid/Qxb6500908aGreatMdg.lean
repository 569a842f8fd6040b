import Derived.Test.Qxb6500908aGreatEng
import Derived.Test.Qxb6500908aGreatMdl
set_option linter.unusedVariables false
set_option linter.unusedSimpArgs false
namespace Go.Eng
set_option linter.unusedSectionVars false
/-! maps from which entries may be deleted: any key, there or not -/
section mdg
variable {κ : Type} [DecidableEq κ]
theorem findNow_D {desc : TypeDesc} {k : κ → Value} (h : ∀ a b, Instr.sameNow desc (k a) (k b) = some (decide (a = b))) (a : κ) : ∀ (l : List (ME κ)) (j : Nat),
    Instr.findNow desc (k a) (l.map (ME.ent k)) j = some ((dfind l a).map fun q => (q.1 + j, q.2))
  | [], _ => rfl
  | p :: l, j => by
    rw [List.map_cons]
    unfold Instr.findNow dfind
    simp only [ME.ent, h]
    by_cases e : a = p.ky
    · rw [if_pos e, decide_eq_true e]; simp
    · rw [if_neg e, decide_eq_false e]
      have h9 := findNow_D h a l (j + 1)
      show Instr.findNow desc (k a) (l.map (ME.ent k)) (j + 1) = _
      rw [h9]
      cases dfind l a with
      | none => rfl
      | some q => simp; omega
theorem KeyD.now {P : Program} {kt : TypeId} {k : κ → Value} (hko : KeyOk P kt k) (und : ∃ desc, P.underlying kt = some desc ∧ (∀ a b, Instr.sameNow desc (k a) (k b) = some (decide (a = b)))) : KeyD P kt k := by
  refine ⟨fun a l w => ?_, hko.ck⟩
  obtain ⟨desc, hu, hs⟩ := und
  unfold Instr.findKey
  simp only [Sem.run_bind, run_underlying hu, Result.andThen_ok, findNow_D hs a l 0]
  cases dfind l a <;> simp
def dput (l : List (ME κ)) (a : κ) (v : Value) (nb : Nat) : List (ME κ) × Nat := match dfind l a with
  | none => (l ++ [⟨a, v, nb⟩], nb + 1)
  | some q => (l.modify q.1 (fun e => { e with vl := v }), nb)
def ddel (l : List (ME κ)) (a : κ) : List (ME κ) := match dfind l a with
  | none => l
  | some q => l.eraseIdx q.1
theorem dfind_key {k : κ → Value} : ∀ {l : List (ME κ)} {a : κ} {q : Nat × Value}, dfind l a = some q → ∃ e, l[q.1]? = some e ∧ e.ky = a
  | [], a, q, h => by cases h
  | p :: l, a, q, h => by
    unfold dfind at h
    split at h
    · rename_i e
      injection h with h
      subst h
      exact ⟨p, rfl, e.symm⟩
    · cases hm : dfind l a with
      | none => rw [hm] at h; cases h
      | some q' =>
        rw [hm] at h
        injection h with h
        subst h
        obtain ⟨e, h1, h2⟩ := dfind_key (k := k) hm
        exact ⟨e, by simpa using h1, h2⟩
section rules
variable {P : Program} {n : Nat} {L : List (Nat × Value)} {a : Act} {w : World} {T : TypeId} {pos : String} {aft : Array Edge} {g : Option (Nat × Bool)} {dst : Option Nat}
variable {ops : Array Oper} {Q : Exit → Act → World → Prop} {K : Act → World → Prop} {D : List Nat} {w0 : World} {F G G1 : List (Nat × Obj)}
variable {x y : Operand} {t kt et : TypeId} {z : Value} {b r nb : Nat} {k : κ → Value} {l : List (ME κ)} {ak : κ}
theorem map_modify9 {l : List (ME κ)} {i : Nat} {v : Value} {a : κ} (h : ∃ e, l[i]? = some e ∧ e.ky = a) : (l.map (ME.ent k)).modify i (fun e => { e with key := k a, val := v }) = (l.modify i (fun e => { e with vl := v })).map (ME.ent k) := by
  obtain ⟨e, h1, h2⟩ := h
  apply List.ext_getElem?
  intro j
  rw [List.getElem?_modify, List.getElem?_map, List.getElem?_map, List.getElem?_modify]
  by_cases hj : i = j
  · subst hj
    rw [h1]
    simp [ME.ent, h2]
  · cases l[j]? <;> simp [hj]
theorem r_mapUpdG {u : Operand} {v : Value} (hk : KeyD P kt k) (hko : KeyOk P kt k) (ht : P.underlying t = some (.map kt et)) (hl : Sl n L a) (hx : val L x = some (.map (some b))) (hy : val L y = some (k ak)) (hu : val L u = some v) (hm : w.heap[b]? = some (MD k l nb)) :
    Does P a ⟨dst, .mapUpdate t x y u, T, pos, aft, g⟩ w { w with heap := w.heap.setIfInBounds b (MD k (dput l ak v nb).1 (dput l ak v nb).2) } := by
  cases hf : dfind l ak with
  | none =>
    have := r_mapUpdD (T := T) (pos := pos) (aft := aft) (g := g) (dst := dst) hk ht hl hx hy hu hm hf
    have e : dput l ak v nb = (l ++ [⟨ak, v, nb⟩], nb + 1) := by unfold dput; rw [hf]
    rw [e]; exact this
  | some q =>
    have e : dput l ak v nb = (l.modify q.1 (fun e => { e with vl := v }), nb) := by unfold dput; rw [hf]
    have h3 := dfind_key (k := k) hf
    have hb := hko.bits ak
    have hkey : Option.map ((fun x : MapEntry => x.key) ∘ ME.ent k) l[q.1]? = some (k ak) := by
      obtain ⟨e1, h4, h5⟩ := h3
      rw [h4]; simp [ME.ent, h5]
    rw [e]
    simp only [Does, execOp, hl.ev hx, hl.ev hy, hl.ev hu, Instr.mapUpdate, Sem.run_bind, run_underlying ht, getObj, Sem.run, hm, MD, Result.andThen_ok, Sem.run_pure, hk.ck ak, hk.fd ak l w, Result.andThen, hf]
    have h6 := map_modify9 (k := k) (v := v) h3
    simp [Instr.keyThatStays, hkey, hb, setObj, Sem.run, hm, MD, ← h6]
theorem w_mapUpdG {u : Operand} {v : Value} (hk : KeyD P kt k) (hko : KeyOk P kt k) (ht : P.underlying t = some (.map kt et)) (hl : Sl n L a) (hh : Has D w0 F w) (hg : GuardOk ops L g)
    (hx : val L x = some (.map (some b))) (hy : val L y = some (k ak)) (hu : val L u = some v) (hf : Find F b (MD k l nb) G) (kk : ∀ w', Has D w0 ((b, MD k (dput l ak v nb).1 (dput l ak v nb).2) :: G) w' → K a w') : OpW P ops Q ⟨none, .mapUpdate t x y u, T, pos, aft, g⟩ K a w :=
  wl_unit hl hg (r_mapUpdG hk hko ht hl hx hy hu (hh.mem _ _ hf.mem)) (kk _ (hh.write hf rfl rfl rfl rfl))
theorem w_deleteG {ts : Array TypeId} (hts : ts[0]? = some t) (hk : KeyD P kt k) (ht : P.underlying t = some (.map kt et)) (hl : Sl n L a) (hh : Has D w0 F w) (hg : GuardOk ops L g)
    (hx : val L x = some (.map (some b))) (hy : val L y = some (k ak)) (hf : Find F b (MD k l nb) G) (kk : ∀ w', Has D w0 ((b, MD k (ddel l ak) nb) :: G) w' → K a w') : OpW P ops Q ⟨none, .call { callee := .builtin .delete, args := #[x, y], argTypes := ts }, T, pos, aft, g⟩ K a w := by
  have hm := hh.mem _ _ hf.mem
  cases hn : dfind l ak with
  | some q =>
    have e : ddel l ak = l.eraseIdx q.1 := by unfold ddel; rw [hn]
    rw [e] at kk
    exact w_deleteD (v := q.2) hts hk ht hl hh hg hx hy hf hn kk
  | none =>
    have e : ddel l ak = l := by unfold ddel; rw [hn]
    rw [e] at kk
    refine wl_valD hl hg (v := .tuple #[]) (w' := { w with heap := w.heap.setIfInBounds b (MD k l nb) }) ?_ (kk _ (hh.write hf rfl rfl rfl rfl))
    simp [Gives, execOp, resolve, invoke, builtin, hl.ev hx, hl.ev hy, Builtin.delete_, hts, run_underlying ht, getObj, Sem.run, hm, MD, hk.ck ak, hk.fd ak l w, hn, setObj]
end rules
end mdg
end Go.Eng

import Derived.Test.Qxb6500908aGreatEng
import Derived.Test.Qxb6500908aGreatMap
import Derived.Maps.RangeRun
set_option linter.unusedVariables false
set_option linter.unusedSimpArgs false
namespace Go.Eng
set_option linter.unusedSectionVars false
/-! ranging over a map, and the entries of a double assignment -/
open Go.ChangeMaps (setBlock)
section mapr
variable {κ : Type} [DecidableEq κ]
/-- an iterator over the map at b, of n entries, of which those in 'seen' have come -/
def IT (b n : Nat) (seen : List Nat) : Obj := .mapIter (some b) n ⟨seen⟩ n
theorem ents_get (k : κ → Value) : ∀ (l : List (κ × Value)) (i j : Nat), (ents k i l)[j]? = (l[j]?).map fun p => { key := k p.1, val := p.2, born := i + j }
  | [], _, j => by simp [ents]
  | p :: l, i, 0 => by simp [ents]
  | p :: l, i, j + 1 => by
    simp only [ents, List.getElem?_cons_succ]
    rw [ents_get k l (i + 1) j]
    cases l[j]? with
    | none => rfl
    | some q => simp; omega
theorem ents_mem {k : κ → Value} {l : List (κ × Value)} {e : MapEntry} (h : e ∈ ents k 0 l) : ∃ j p, l[j]? = some p ∧ e = { key := k p.1, val := p.2, born := j } := by
  obtain ⟨j, hj⟩ := List.getElem?_of_mem h
  rw [ents_get] at hj
  cases hp : l[j]? with
  | none => rw [hp] at hj; cases hj
  | some p =>
    rw [hp] at hj
    injection hj with hj
    exact ⟨j, p, hp, by rw [← hj]; simp⟩
theorem ents_has {k : κ → Value} {l : List (κ × Value)} {j : Nat} {p : κ × Value} (h : l[j]? = some p) : ({ key := k p.1, val := p.2, born := j } : MapEntry) ∈ ents k 0 l := by
  refine List.mem_of_getElem? (i := j) ?_
  rw [ents_get, h]; simp
theorem ents_borns (k : κ → Value) : ∀ (l : List (κ × Value)) (i : Nat), (ents k i l).map (·.born) = List.range' i l.length
  | [], _ => rfl
  | p :: l, i => by simp [ents, ents_borns k l (i + 1), List.range'_succ]
section rules
variable {P : Program} {n : Nat} {L : List (Nat × Value)} {a : Act} {w : World} {T : TypeId} {pos : String} {aft : Array Edge} {g : Option (Nat × Bool)} {dst : Option Nat}
variable {ops : Array Oper} {Q : Exit → Act → World → Prop} {K : Act → World → Prop} {D : List Nat} {w0 : World} {F G G1 : List (Nat × Obj)}
variable {x y : Operand} {t kt et : TypeId} {z : Value} {b r : Nat} {k : κ → Value} {l : List (κ × Value)} {ak : κ}

theorem w_range {d : Nat} (ht : P.underlying t = some (.map kt et)) (hl : Sl n L a) (hh : Has D w0 F w) (hd : Nat.blt d n = true) (hg : GuardOk ops L g)
    (hx : val L x = some (.map (some b))) (hf : Find F b (MO k l) G) (kk : ∀ r a' w', Sl n ((d, .pointer (some ⟨r, 0, none⟩)) :: L) a' → Has D w0 ((r, IT b l.length []) :: F) w' → K a' w') : OpW P ops Q ⟨some d, .range t x, T, pos, aft, g⟩ K a w := by
  have hr := run_range_map (P := P) w t kt et b _ _ ht (hh.mem _ _ hf.mem)
  have hgv : Gives P a ⟨some d, .range t x, T, pos, aft, g⟩ w (.pointer (some ⟨w.heap.size, 0, none⟩)) (w.alloc (IT b l.length [])) := by
    simp only [Gives, execOp, hl.ev hx, Sem.run_bind, hr, Result.andThen]
    rfl
  exact wl_val hl hd hg hgv fun a' hl' => kk _ a' _ hl' (hh.alloc _)
theorem leftOf_nil {k : κ → Value} {l : List (κ × Value)} {seen : List Nat} (h : (leftOf ⟨ents k 0 l⟩ ⟨seen⟩).size = 0) (j : Nat) (hj : j < l.length) : j ∈ seen := by
  have h0 := Array.eq_empty_of_size_eq_zero h
  unfold leftOf at h0
  rw [Array.filter_eq_empty_iff] at h0
  have h1 := h0 { key := k l[j].1, val := l[j].2, born := j } (by
    have := ents_has (k := k) (List.getElem?_eq_getElem hj)
    simpa using this)
  simpa using h1
theorem leftOf_mem {k : κ → Value} {l : List (κ × Value)} {seen : List Nat} {e : MapEntry} (h : e ∈ (leftOf ⟨ents k 0 l⟩ ⟨seen⟩).toList) : ∃ j p, l[j]? = some p ∧ j ∉ seen ∧ e = { key := k p.1, val := p.2, born := j } := by
  unfold leftOf at h
  simp at h
  obtain ⟨j, p, h1, h2⟩ := ents_mem h.1
  refine ⟨j, p, h1, ?_, h2⟩
  have := h.2
  rw [h2] at this
  simpa using this
theorem w_next {d : Nat} {seen : List Nat} (hl : Sl n L a) (hh : Has D w0 F w) (hd : Nat.blt d n = true) (hg : GuardOk ops L g)
    (hx : val L x = some (.pointer (some ⟨r, 0, none⟩))) (hfr : Find F r (IT b l.length seen) G) (hfm : Find F b (MO k l) G1)
    (k0 : (∀ j, j < l.length → j ∈ seen) → ∀ a', Sl n ((d, .tuple #[.bool false]) :: L) a' → K a' w)
    (k1 : ∀ j p, l[j]? = some p → j ∉ seen → ∀ a' w', Sl n ((d, .tuple #[.bool true, k p.1, p.2]) :: L) a' → Has D w0 ((r, IT b l.length (seen ++ [j])) :: G) w' → K a' w') : OpW P ops Q ⟨some d, .next x false, T, pos, aft, g⟩ K a w := by
  have h1 := hh.mem _ _ hfr.mem
  have h2 := hh.mem _ _ hfm.mem
  rcases run_next_at (P := P) w T r b l.length l.length ⟨seen⟩ ⟨ents k 0 l⟩ l.length h1 h2 (fun e he => by
      obtain ⟨j, p, q1, q2⟩ := ents_mem (by simpa using he)
      rw [q2]
      exact (List.getElem?_eq_some_iff.1 q1).1) (Nat.le_refl _) with ⟨e1, e2⟩ | ⟨e, he, w1, hw1, e2⟩
  · have hgv : Gives P a ⟨some d, .next x false, T, pos, aft, g⟩ w (.tuple #[.bool false]) w := by
      simp only [Gives, execOp, hl.ev hx, Sem.run_bind, e2, Result.andThen]
      rfl
    exact wl_val hl hd hg hgv fun a' hl' => k0 (leftOf_nil e1) a' hl'
  · obtain ⟨j, p, q1, q2, rfl⟩ := leftOf_mem he
    have hgv : Gives P a ⟨some d, .next x false, T, pos, aft, g⟩ w (.tuple #[.bool true, k p.1, p.2]) (setBlock w1 r (.mapIter (some b) l.length ((Array.mk seen).push j) l.length)) := by
      simp only [Gives, execOp, hl.ev hx, Sem.run_bind, e2, Result.andThen]
      rfl
    have hh1 : Has D w0 F w1 := by rcases hw1 with rfl | rfl; exact hh; exact hh.drew
    have hh2 := hh1.write hfr (o' := IT b l.length (seen ++ [j])) (w' := setBlock w1 r (.mapIter (some b) l.length ((Array.mk seen).push j) l.length)) (by unfold setBlock IT; simp) rfl rfl rfl
    exact wl_val hl hd hg hgv fun a' hl' => k1 j p q1 q2 a' _ hl' hh2
theorem w_entry {d : Nat} {seen : List Nat} {j : Nat} {p : κ × Value} (hj : l[j]? = some p) (hl : Sl n L a) (hh : Has D w0 F w) (hd : Nat.blt d n = true) (hg : GuardOk ops L g)
    (hx : val L x = some (.pointer (some ⟨r, 0, none⟩))) (hfr : Find F r (IT b l.length (seen ++ [j])) G) (hfm : Find F b (MO k l) G1)
    (kk : ∀ a', Sl n ((d, .tuple #[k p.1, p.2]) :: L) a' → K a' w) : OpW P ops Q ⟨some d, .entry x, T, pos, aft, g⟩ K a w := by
  have h1 := hh.mem _ _ hfr.mem
  have h2 := hh.mem _ _ hfm.mem
  have hr := run_entry_at (P := P) w r b l.length ⟨seen⟩ ⟨ents k 0 l⟩ l.length { key := k p.1, val := p.2, born := j } (by rw [h1]; unfold IT; simp) h2 (by simpa using ents_has hj) (by
    show ((ents k 0 l).map (·.born)).Nodup
    rw [ents_borns]; exact List.nodup_range')
  have hgv : Gives P a ⟨some d, .entry x, T, pos, aft, g⟩ w (.tuple #[k p.1, p.2]) w := by
    simp only [Gives, execOp, hl.ev hx, Sem.run_bind, hr, Result.andThen]
    rfl
  exact wl_val hl hd hg hgv kk
/-- the place of a key that is there -/
theorem mfind_mput (l : List (κ × Value)) (a : κ) (v : Value) : ∃ i, mfind (mput l a v) a = some (i, v) := by
  induction l with
  | nil => exact ⟨0, by simp [mput, mfind]⟩
  | cons p l ih =>
    unfold mput
    by_cases e : a = p.1
    · rw [if_pos e]; exact ⟨0, by unfold mfind; rw [if_pos e]⟩
    · rw [if_neg e]
      obtain ⟨i, hi⟩ := ih
      exact ⟨i + 1, by unfold mfind; rw [if_neg e, hi]; rfl⟩
theorem mput_mput (l : List (κ × Value)) (a : κ) (u v : Value) : mput (mput l a u) a v = mput l a v := by
  induction l with
  | nil => simp [mput]
  | cons p l ih =>
    by_cases e : a = p.1
    · simp [mput, e]
    · simp [mput, e, ih]
theorem mput_same (l : List (κ × Value)) (a : κ) (q : Nat × Value) (h : mfind l a = some q) : mput l a q.2 = l := by
  induction l generalizing q with
  | nil => cases h
  | cons p l ih =>
    unfold mfind at h
    by_cases e : a = p.1
    · rw [if_pos e] at h; injection h with h; subst h; simp [mput, e]
    · rw [if_neg e] at h
      cases hm : mfind l a with
      | none => rw [hm] at h; cases h
      | some q' => rw [hm] at h; injection h with h; subst h; simp [mput, e, ih q' hm]
theorem mfind_new (l : List (κ × Value)) (a : κ) (v : Value) (h : mfind l a = none) : mfind (mput l a v) a = some (l.length, v) := by
  induction l with
  | nil => simp [mput, mfind]
  | cons p l ih =>
    unfold mfind at h
    by_cases e : a = p.1
    · rw [if_pos e] at h; cases h
    · rw [if_neg e] at h
      have h' : mfind l a = none := by cases hm : mfind l a with | none => rfl | some q => rw [hm] at h; cases h
      simp [mput, mfind, e, ih h']
theorem mfind_lt (l : List (κ × Value)) (a : κ) (q : Nat × Value) (h : mfind l a = some q) : l[q.1]? = some (a, q.2) := by
  induction l generalizing q with
  | nil => cases h
  | cons p l ih =>
    unfold mfind at h
    by_cases e : a = p.1
    · rw [if_pos e] at h; injection h with h; subst h; subst e; rfl
    · rw [if_neg e] at h
      cases hm : mfind l a with
      | none => rw [hm] at h; cases h
      | some q' => rw [hm] at h; injection h with h; subst h; simpa using ih q' hm
theorem modify_congr {α : Type} (f g : α → α) : ∀ (l : List α) (i : Nat), (∀ x, l[i]? = some x → f x = g x) → l.modify i f = l.modify i g
  | [], i, _ => by simp
  | y :: l, 0, h => by simp [h y rfl]
  | y :: l, i + 1, h => by simp only [List.modify_succ_cons]; rw [modify_congr f g l i fun x hx => h x (by simpa using hx)]
theorem modify_id {α : Type} (f : α → α) : ∀ (l : List α) (i : Nat), (∀ x, l[i]? = some x → f x = x) → l.modify i f = l
  | [], i, _ => by simp
  | y :: l, 0, h => by simp [h y rfl]
  | y :: l, i + 1, h => by simp only [List.modify_succ_cons]; rw [modify_id f l i fun x hx => h x (by simpa using hx)]
theorem findIdx_born (k : κ → Value) (l : List (κ × Value)) (i : Nat) (h : i < l.length) : (ents k 0 l).findIdx? (fun e => (e.born : Int) == (i : Int)) = some i := by
  rw [List.findIdx?_eq_some_iff_getElem]
  have hl := ents_length k l 0
  have hg : ∀ j (hj : j < (ents k 0 l).length), (ents k 0 l)[j].born = j := by
    intro j hj
    have h1 := ents_get k l 0 j
    rw [List.getElem?_eq_getElem hj, List.getElem?_eq_getElem (by omega)] at h1
    injection h1 with h1
    rw [h1]; simp
  refine ⟨by omega, ?_, fun j hj => ?_⟩
  · rw [hg i (by omega)]; simp
  · rw [hg j (by omega)]; simp; omega
theorem r_mapEntry (hk : KeyOk P kt k) (ht : P.underlying t = some (.map kt et)) (hz : zeroOk P et z) (hl : Sl n L a) (hx : val L x = some (.map (some b))) (hy : val L y = some (k ak)) (hm : w.heap[b]? = some (MO k l)) :
    ∃ i : Nat, mfind (mput l ak ((mget l ak).getD z)) ak = some (i, (mget l ak).getD z) ∧ Gives P a ⟨dst, .mapEntry t x y, T, pos, aft, g⟩ w (.tuple #[(mget l ak).getD z, .int .i64 (i : Int)]) { w with heap := w.heap.setIfInBounds b (MO k (mput l ak ((mget l ak).getD z))) } := by
  rw [← mfind_get]
  cases hf : mfind l ak with
  | none =>
    obtain ⟨h1, h2⟩ := ents_none k ak z l 0 hf
    rw [Nat.zero_add] at h1
    refine ⟨l.length, mfind_new l ak z hf, ?_⟩
    simp only [Gives, execOp, hl.ev hx, hl.ev hy, Instr.mapEntry, Sem.run_bind, run_underlying ht, getObj, Sem.run, hm, MO, Result.andThen_ok, Sem.run_pure, run_checkKey hk ak, run_findKey hk ak l w, Result.andThen, hf]
    simp [run_zero hz, setObj, Sem.run, hm, MO, ← h1, h2, goInt]
  | some q =>
    have hsm := mput_same l ak q hf
    have h3 := ents_key k ak l 0 q hf
    have h4 : ((ents k 0 l)[q.1]?).map (·.born) = some q.1 := by rw [ents_get, mfind_lt l ak q hf]; simp
    have hb := hk.bits ak
    have h5 : (ents k 0 l).modify q.1 (fun e => { e with key := k ak }) = ents k 0 l := modify_id _ _ _ fun e he => by
      rw [he] at h3
      injection h3 with h3
      rw [← h3]
    refine ⟨q.1, ?_, ?_⟩
    · show mfind (mput l ak q.2) ak = some (q.1, q.2)
      rw [hsm]; exact hf
    · show Gives P a _ w (.tuple #[q.2, .int .i64 (q.1 : Int)]) { w with heap := w.heap.setIfInBounds b (MO k (mput l ak q.2)) }
      rw [hsm]
      simp only [Gives, execOp, hl.ev hx, hl.ev hy, Instr.mapEntry, Sem.run_bind, run_underlying ht, getObj, Sem.run, hm, MO, Result.andThen_ok, Sem.run_pure, run_checkKey hk ak, run_findKey hk ak l w, Result.andThen, hf]
      simp [Instr.keyThatStays, h3, hb, setObj, Sem.run, hm, MO, h5, goInt]
      have h6 := mfind_lt l ak q hf
      rw [ents_get, h6]; simp
theorem r_entryStore {s u : Operand} {v v0 : Value} {i : Nat} (hl : Sl n L a) (hx : val L x = some (.map (some b))) (hs : val L s = some (.int .i64 (i : Int))) (hu : val L u = some v) (hm : w.heap[b]? = some (MO k l)) (hi : mfind l ak = some (i, v0)) :
    Does P a ⟨dst, .entryStore t x s u, T, pos, aft, g⟩ w { w with heap := w.heap.setIfInBounds b (MO k (mput l ak v)) } := by
  have h1 := mfind_lt l ak _ hi
  obtain ⟨h2, h3⟩ := ents_some k ak v l 0 _ hi
  have h4 := ents_key k ak l 0 _ hi
  have h5 : (ents k 0 l).modify i (fun e => { e with val := v }) = ents k 0 (mput l ak v) := by
    rw [← h2]
    refine modify_congr _ _ _ _ fun e he => ?_
    rw [he] at h4
    injection h4 with h4
    rw [← h4]
  have h6 := findIdx_born k l i (List.getElem?_eq_some_iff.1 h1).1
  simp only [Does, execOp, hl.ev hx, hl.ev hs, hl.ev hu, Instr.entryStore, Sem.run_bind, getObj, Sem.run, hm, MO, Result.andThen_ok, Sem.run_pure, Result.andThen, asInt, asIntOf]
  simp [h6, setObj, Sem.run, hm, MO, h5, h3]
theorem w_mapEntry {d : Nat} (hk : KeyOk P kt k) (ht : P.underlying t = some (.map kt et)) (hz : zeroOk P et z) (hl : Sl n L a) (hh : Has D w0 F w) (hd : Nat.blt d n = true) (hg : GuardOk ops L g)
    (hx : val L x = some (.map (some b))) (hy : val L y = some (k ak)) (hf : Find F b (MO k l) G)
    (kk : ∀ i : Nat, mfind (mput l ak ((mget l ak).getD z)) ak = some (i, (mget l ak).getD z) → ∀ a' w', Sl n ((d, .tuple #[(mget l ak).getD z, .int .i64 (i : Int)]) :: L) a' → Has D w0 ((b, MO k (mput l ak ((mget l ak).getD z))) :: G) w' → K a' w') : OpW P ops Q ⟨some d, .mapEntry t x y, T, pos, aft, g⟩ K a w := by
  obtain ⟨i, h1, h2⟩ := r_mapEntry (dst := some d) (T := T) (pos := pos) (aft := aft) (g := g) hk ht hz hl hx hy (hh.mem _ _ hf.mem)
  exact wl_val hl hd hg h2 fun a' hl' => kk i h1 a' _ hl' (hh.write hf rfl rfl rfl rfl)
theorem w_entryStore {s u : Operand} {v v0 : Value} {i : Nat} (hi : mfind l ak = some (i, v0)) (hl : Sl n L a) (hh : Has D w0 F w) (hg : GuardOk ops L g)
    (hx : val L x = some (.map (some b))) (hs : val L s = some (.int .i64 (i : Int))) (hu : val L u = some v) (hf : Find F b (MO k l) G) (kk : ∀ w', Has D w0 ((b, MO k (mput l ak v)) :: G) w' → K a w') : OpW P ops Q ⟨none, .entryStore t x s u, T, pos, aft, g⟩ K a w :=
  wl_unit hl hg (r_entryStore hl hx hs hu (hh.mem _ _ hf.mem) hi) (kk _ (hh.write hf rfl rfl rfl rfl))
end rules
end mapr
end Go.Eng

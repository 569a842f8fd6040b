import Derived.Test.Qxb6500908aGreatEng
import Derived.Test.Qxb6500908aGreatVw
set_option linter.unusedVariables false
set_option linter.unusedSimpArgs false
namespace Go.Eng
section off
variable {P : Program} {n : Nat} {L : List (Nat × Value)} {a : Act} {w : World} {x y : Operand} {T : TypeId} {pos : String} {aft : Array Edge} {g : Option (Nat × Bool)} {dst : Option Nat}
variable {ops : Array Oper} {Q : Exit → Act → World → Prop} {K : Act → World → Prop} {D : List Nat} {w0 : World} {F G : List (Nat × Obj)}
/-- a row of ours that need not begin at the block's first cell -/
def RowO (v : Value) (n : Nat) (xs : List Value) (size : Nat) (e : TypeId) (E : List (Nat × Obj)) : Prop :=
  (v = .slice none 0 0 ∧ n = 0 ∧ xs = [] ∧ E = []) ∨
  (∃ b o cap l, v = .slice (some ⟨b, o, none⟩) n cap ∧ xs.length = n * size ∧ n ≤ cap ∧ o + cap * size ≤ l.length ∧ (l.drop o).take xs.length = xs ∧ E = [(b, C l e)])
theorem RowO.of {v : Value} {n size : Nat} {xs : List Value} {e : TypeId} {E : List (Nat × Obj)} (h : Row v n xs size e E) : RowO v n xs size e E := by
  rcases h with h | ⟨b, cap, junk, h1, h2, h3, h4, h5⟩
  · exact .inl h
  · exact .inr ⟨b, 0, cap, xs ++ junk, h1, h2, h4, by rw [h3]; omega, by rw [List.drop_zero, List.take_left], h5⟩
theorem rowO_val {v : Value} {n size : Nat} {xs : List Value} {e : TypeId} {E : List (Nat × Obj)} (h : RowO v n xs size e E) : ∃ p c, v = .slice p n c := by
  rcases h with ⟨rfl, rfl, _⟩ | ⟨b, o, cap, l, rfl, _⟩
  · exact ⟨_, _, rfl⟩
  · exact ⟨_, _, rfl⟩
theorem rowO_pos {p : Option Addr} {n cap size : Nat} {xs : List Value} {e : TypeId} {E : List (Nat × Obj)} (h : RowO (.slice p n cap) n xs size e E) (h0 : 0 < n) :
    ∃ b o l, p = some ⟨b, o, none⟩ ∧ xs.length = n * size ∧ n ≤ cap ∧ o + cap * size ≤ l.length ∧ (l.drop o).take xs.length = xs ∧ E = [(b, C l e)] := by
  rcases h with ⟨_, h2, _⟩ | ⟨b, o, cap', l, h1, h2, h3, h4, h5, h6⟩
  · omega
  · injection h1 with e1 _ e3
    subst e3
    exact ⟨b, o, l, e1, h2, h3, h4, h5, h6⟩
/-- x[1:] -/
theorem rowO_tl {b o n cap size : Nat} {l xs : List Value} {e : TypeId} (h2 : xs.length = n * size) (h3 : n ≤ cap) (h4 : o + cap * size ≤ l.length) (h5 : (l.drop o).take xs.length = xs) (h0 : 0 < n) :
    RowO (.slice (if cap = 1 then some ⟨b, o, none⟩ else some ⟨b, o + 1 * size, none⟩) (n - 1) (cap - 1)) (n - 1) (xs.drop size) size e [(b, C l e)] := by
  obtain ⟨m, rfl⟩ : ∃ m, n = m + 1 := ⟨n - 1, by omega⟩
  obtain ⟨c, rfl⟩ : ∃ c, cap = c + 1 := ⟨cap - 1, by omega⟩
  rw [Nat.add_mul, Nat.one_mul] at h2 h4
  have hl : (xs.drop size).length = m * size := by rw [List.length_drop]; omega
  by_cases hc : c = 0
  · subst hc
    have hm : m = 0 := by omega
    subst hm
    rw [if_pos rfl]
    exact .inr ⟨b, o, 0, l, rfl, hl, Nat.le_refl _, by omega, by rw [hl]; simp only [Nat.zero_mul, List.take_zero]; exact (List.eq_nil_of_length_eq_zero (by rw [hl]; omega)).symm, rfl⟩
  · rw [if_neg (by omega)]
    refine .inr ⟨b, o + 1 * size, c, l, rfl, hl, by omega, by rw [Nat.one_mul]; omega, ?_, rfl⟩
    conv => rhs; rw [← h5]
    rw [List.drop_take, List.drop_drop, Nat.one_mul, hl, show xs.length - size = m * size by omega]
/-- the i-th element -/
theorem rowO_at {o size i : Nat} {l xs : List Value} {cs : List Value} (h5 : (l.drop o).take xs.length = xs) (hi : (xs.drop (i * size)).take size = cs) (hle : i * size + size ≤ xs.length) : (l.drop (o + i * size)).take size = cs := by
  rw [← hi, ← h5, List.drop_take, List.take_take, List.drop_drop, Nat.min_eq_left (by omega)]
theorem run_appendO_room {t ty e : TypeId} {i : TypeInfo} (ht : P.underlying t = some (.slice e)) (hi : P.info? e = some i)
    {b o sLen sCap : Nat} {cur : Array Value} (hg : w.heap[b]? = some (.cells cur e (0, 0)))
    {p : Addr} {m c : Nat} {news : List Value} (hl : news.length = m * i.size) (hnews : ∀ j u, news[j]? = some u → w.cell? (p.add j) = some u) (h1 : ∀ u ∈ news, u.oneCell' = true)
    (hroom : sLen + m ≤ sCap) (hfit : o + sLen * i.size + news.length ≤ cur.size) :
    (Builtin.append_ #[t, t] ty #[.slice (some ⟨b, o, none⟩) sLen sCap, .slice (some p) m c]).run P w =
      .ok (.slice (some ⟨b, o, none⟩) (sLen + m) sCap) (w.setRow b (cur.toList.take (o + sLen * i.size) ++ news ++ cur.toList.drop (o + sLen * i.size + news.length)).toArray) := by
  have hf := run_firstCells_some (P := P) w i.size m p m c news hl hnews
  have hst := run_storeCells_at P b (o + sLen * i.size) e news 0 cur w hg (by simpa using hfit) h1
  simp only [Nat.add_zero] at hst
  simp [Builtin.append_, run_underlying ht, sizeOf, typeInfo, hi, Builtin.lenOf, hroom, hf, add_off, hst]
theorem run_appendO {t ty e size bytes : Nat} {v : Value} {cnt : Nat} {xs : List Value} {E : List (Nat × Obj)} {p : Addr} {m c : Nat} {news : List Value} (ht : appOk P t e size bytes = true) (hs0 : 0 < size) (hR : RowO v cnt xs size e E) (hh : Has D w0 (E ++ G) w)
    (hlen : news.length = m * size) (hnews : ∀ j u, news[j]? = some u → w.cell? (p.add j) = some u) (h1 : news.all (·.oneCell') = true) (hm : 0 < m) (hb : (cnt + m) * bytes ≤ 70368744177664) (hb2 : cnt + m ≤ 4611686018427387904) (hby : bytes ≤ 4294967296) :
    ∃ v' E' w', (Builtin.append_ #[t, t] ty #[v, .slice (some p) m c]).run P w = .ok v' w' ∧ RowO v' (cnt + m) (xs ++ news) size e E' ∧ Has D w0 (E' ++ G) w' := by
  rcases hR with hR | ⟨b, o, cap, l, rfl, hxl, hnc, hol, hxs, rfl⟩
  · obtain ⟨v', E', w', h2, h3, h4⟩ := run_appendRow (ty := ty) (c := c) (P := P) ht hs0 (.inl hR) hh hlen hnews h1 hm hb hb2 hby
    exact ⟨v', E', w', h2, RowO.of h3, h4⟩
  · obtain ⟨i, z, hu, hi, hz, rfl, rfl, hzs⟩ := appOk_spec ht
    have hG : Has D w0 G w := by
      have h' := hh.perm List.perm_append_comm
      exact h'.keep (G := [(b, C l e)]) ⟨List.Perm.refl _⟩
    have hf : Find ([(b, C l e)] ++ G) b (C l e) G := find_head
    have hm' := hh.mem b _ hf.mem
    have hlx : o + xs.length ≤ l.length := by
      have := Nat.mul_le_mul_right i.size hnc
      rw [hxl]; omega
    by_cases hroom : cnt + m ≤ cap
    · have hr9 := Nat.mul_le_mul_right i.size hroom
      rw [Nat.add_mul] at hr9
      have hfit : o + cnt * i.size + news.length ≤ (⟨l⟩ : Array Value).size := by
        simp only [List.size_toArray]; rw [hlen]; omega
      have hr := run_appendO_room (P := P) (ty := ty) (w := w) (c := c) (o := o) (sLen := cnt) (sCap := cap) hu hi hm' hlen hnews (fun u hu => by simpa using List.all_eq_true.1 h1 u hu) hroom hfit
      refine ⟨_, _, _, hr, .inr ⟨b, o, cap, l.take (o + cnt * i.size) ++ news ++ l.drop (o + cnt * i.size + news.length), rfl, ?_, hroom, ?_, ?_, rfl⟩, ?_⟩
      · simp [hxl, hlen, Nat.add_mul]
      · simp only [List.length_append, List.length_take, List.length_drop]; rw [hlen]; omega
      · have e1 : (l.take (o + cnt * i.size)).drop o = xs := by
          rw [List.drop_take, show o + cnt * i.size - o = xs.length by omega]; exact hxs
        have e2 : (l.take (o + cnt * i.size)).length = o + cnt * i.size := by rw [List.length_take]; omega
        rw [List.append_assoc, List.drop_append_of_le_length (by omega), e1, List.length_append, ← List.append_assoc]
        exact List.take_left' (by simp)
      · have := hh.write hf (heap_setRow hm' (cs := ⟨l.take (o + cnt * i.size) ++ news ++ l.drop (o + cnt * i.size + news.length)⟩)) rfl rfl rfl
        exact this
    · have hfit2 : Builtin.nextslicecap (cnt + m) cap * i.bytes ≤ 281474976710656 := growslice_fits (by omega) (by omega)
      have holds : ∀ j u, xs[j]? = some u → w.cell? ((⟨b, o, none⟩ : Addr).add j) = some u := fun j u hj => by
        rw [add_off]
        have hlt : j < xs.length := (List.getElem?_eq_some_iff.1 hj).1
        rw [← hxs, List.getElem?_take, if_pos hlt, List.getElem?_drop] at hj
        simp only [World.cell?, hm', C]
        simpa using hj
      have hr := run_append_grow (P := P) w t ty e i z hu hi hz ⟨b, o, none⟩ cnt cap xs hxl holds p m c news hlen hnews (by omega) (by omega) hfit2
      have hge : cnt + m ≤ grownCap w (cnt + m) cap e := grownCap_ge w (cnt + m) cap e
      refine ⟨_, _, _, hr, RowO.of (.inr ⟨w.heap.size, grownCap w (cnt + m) cap e, (Builtin.zeroCells z.cells (grownCap w (cnt + m) cap e - (cnt + m))).toList, rfl, ?_, ?_, hge, rfl⟩), ?_⟩
      · simp [hxl, hlen, Nat.add_mul]
      · have := size_zeroCells z.cells (grownCap w (cnt + m) cap e - (cnt + m))
        simp only [List.length_append, hlen, hxl, Array.length_toList, this, hzs, ← Nat.add_mul]
        congr 1; omega
      · have := hG.drew.alloc (C (xs ++ news ++ (Builtin.zeroCells z.cells (grownCap w (cnt + m) cap e - (cnt + m))).toList) e)
        have e1 : (xs.toArray ++ news.toArray ++ Builtin.zeroCells z.cells (grownCap w (cnt + m) cap e - (cnt + m))) = (⟨xs ++ news ++ (Builtin.zeroCells z.cells (grownCap w (cnt + m) cap e - (cnt + m))).toList⟩ : Array Value) := by apply Array.ext'; simp
        rw [e1]
        exact this
theorem w_appendO {d : Nat} {t e size bytes : Nat} {v : Value} {cnt : Nat} {xs : List Value} {E : List (Nat × Obj)} {b o m c : Nat} {news l : List Value} {Tb : TypeId} {fr : Nat × Nat} (hl : Sl n L a) (hh : Has D w0 F w) (hd : Nat.blt d n = true) (hg : GuardOk ops L g)
    (ht : appOk P t e size bytes = true) (hs0 : Nat.blt 0 size = true) (hx : val L x = some v) (hy : val L y = some (.slice (some ⟨b, o, none⟩) m c)) (hR : RowO v cnt xs size e E) (hp : Keeps F E G)
    (hsrc : w.heap[b]? = some (.cells ⟨l⟩ Tb fr)) (hnews : (l.drop o).take news.length = news) (hlen : news.length = m * size) (h1 : news.all (·.oneCell') = true) (hm : 0 < m) (hb : (cnt + m) * bytes ≤ 70368744177664) (hb2 : cnt + m ≤ 4611686018427387904) (hby : bytes ≤ 4294967296)
    (k : ∀ v' E' a' w', RowO v' (cnt + m) (xs ++ news) size e E' → Sl n ((d, v') :: L) a' → Has D w0 (E' ++ G) w' → K a' w') :
    OpW P ops Q ⟨some d, .call { callee := .builtin .append, args := #[x, y], argTypes := #[t, t] }, T, pos, aft, g⟩ K a w := by
  obtain ⟨v', E', w', hr, hR', hh'⟩ := run_appendO (P := P) (ty := T) (c := c) ht (Nat.blt_eq.mp hs0) hR (hh.perm hp.perm) hlen (p := ⟨b, o, none⟩) (fun j u hj => by
    rw [add_off]
    simp only [World.cell?, hsrc]
    rw [← hnews, List.getElem?_take] at hj
    split at hj
    · simpa using hj
    · cases hj) h1 hm hb hb2 hby
  refine wl_val hl hd hg (v := v') (w' := w') ?_ fun a' hl' => k v' E' a' w' hR' hl' hh'
  simp [Gives, execOp, resolve, invoke, builtin, hl.ev hx, hl.ev hy, hr]
/-- an empty slice with room for c -/
theorem run_makeSlice0b {t e size bytes : Nat} (ht : appOk P t e size bytes = true) (c : Nat) (hc : c ≤ 1000000000) (hb : bytes ≤ 1000) :
    ∃ junk : List Value, junk.length = c * size ∧ (Instr.makeSlice t (.int .i64 0) (.int .i64 (c : Int))).run P w = .ok (.slice (some ⟨w.heap.size, 0, none⟩) 0 c) (w.alloc (C junk e)) := by
  obtain ⟨i, z, hu, hi, hz, rfl, rfl, hzs⟩ := appOk_spec ht
  have hw : IntKind.i64.wrap (c : Int) = (c : Int) := wrap_fits (by simp only [Fits]; omega)
  have hw0 : IntKind.i64.wrap 0 = 0 := rfl
  have hm : (i.bytes : Int) * (c : Int) ≤ 1000 * 1000000000 := Int.mul_le_mul (by omega) (by omega) (by omega) (by omega)
  have hm2 : c * i.bytes ≤ 1000000000 * 1000 := Nat.mul_le_mul hc hb
  have hr : ¬ c * i.bytes > roomBytes := by unfold roomBytes; omega
  refine ⟨((Array.range (c * i.size)).map (fun q => (if c * i.size = 0 then (#[] : Array Value) else z.cells)[q % (if c * i.size = 0 then (#[] : Array Value) else z.cells).size]!)).toList, by simp, ?_⟩
  by_cases c0 : c * i.size = 0
  · simp [Instr.makeSlice, run_underlying hu, Sem.run_bind, asInt, asIntOf, typeInfo, hi, hw, hw0, askRoom, hr, sizeOf, c0, newRow, newObj, Sem.run, C, show ¬ (c : Int) < 0 by omega, show ¬ ((2 : Int) ^ 48 < (i.bytes : Int) * (c : Int)) by omega]
    rw [if_neg (by omega)]
    congr 3
    apply Array.ext'; simp
  · simp [Instr.makeSlice, run_underlying hu, Sem.run_bind, asInt, asIntOf, typeInfo, hi, hw, hw0, askRoom, hr, sizeOf, c0, newRow, newObj, Sem.run, C, zeroValue, hz, show ¬ (c : Int) < 0 by omega, show ¬ ((2 : Int) ^ 48 < (i.bytes : Int) * (c : Int)) by omega]
    rw [if_neg (by omega)]
    congr 3
    apply Array.ext'; simp
theorem w_makeSlice0b {d : Nat} {t e size bytes c : Nat} (hl : Sl n L a) (hh : Has D w0 F w) (hd : Nat.blt d n = true) (hg : GuardOk ops L g) (ht : appOk P t e size bytes = true) (hx : val L x = some (.int .i64 0)) (hy : val L y = some (.int .i64 (c : Int))) (hc : c ≤ 1000000000) (hb : bytes ≤ 1000)
    (k : ∀ b junk a' w', junk.length = c * size → Sl n ((d, .slice (some ⟨b, 0, none⟩) 0 c) :: L) a' → Has D w0 ((b, C junk e) :: F) w' → K a' w') :
    OpW P ops Q ⟨some d, .makeSlice t x y, T, pos, aft, g⟩ K a w := by
  obtain ⟨junk, h1, h2⟩ := run_makeSlice0b (w := w) ht c hc hb
  refine wl_val hl hd hg (v := .slice (some ⟨w.heap.size, 0, none⟩) 0 c) (w' := w.alloc (C junk e)) ?_ fun a' hl' => k _ junk a' _ h1 hl' (hh.alloc (C junk e))
  simp only [Gives, execOp, hl.ev hx, hl.ev hy, Sem.run_bind, h2, Result.andThen]
  rfl
end off
end Go.Eng

import Derived.Test.Qxb6500908aGreatEng
import Derived.Test.Qxb6500908aGreatCut
set_option linter.unusedVariables false
set_option linter.unusedSimpArgs false
namespace Go.Eng
section clr
variable {P : Program} {n : Nat} {L : List (Nat × Value)} {a : Act} {w : World} {T : TypeId} {pos : String} {aft : Array Edge} {g : Option (Nat × Bool)} {x : Operand}
variable {ops : Array Oper} {Q : Exit → Act → World → Prop} {K : Act → World → Prop} {D : List Nat} {w0 : World} {F G : List (Nat × Obj)}
theorem zeroCells_len (cs : Array Value) (m : Nat) : (Builtin.zeroCells cs m).toList.length = m * cs.size := by
  simp [Builtin.zeroCells]
theorem zeroCells_all {cs : Array Value} {m : Nat} (h : cs.toList.all (·.oneCell') = true) : (Builtin.zeroCells cs m).toList.all (·.oneCell') = true := by
  rw [List.all_eq_true] at h ⊢
  intro v hv
  simp only [Builtin.zeroCells, Array.toList_map, List.mem_map] at hv
  obtain ⟨q, hq, rfl⟩ := hv
  have hq2 : q < m * cs.size := by simpa using hq
  have hpos : 0 < cs.size := by
    rcases Nat.eq_zero_or_pos cs.size with h0 | h0
    · rw [h0] at hq2; omega
    · exact h0
  have hlt : q % cs.size < cs.size := Nat.mod_lt _ hpos
  rw [getElem!_pos cs _ hlt]
  exact h _ (by simp)
theorem wl_val0 {op : Op} {v : Value} {w' : World} (hl : Sl n L a) (hg : GuardOk ops L g)
    (hr : Gives P a ⟨none, op, T, pos, aft, g⟩ w v w') (k : K a w') :
    OpW P ops Q ⟨none, op, T, pos, aft, g⟩ K a w := by
  unfold OpW
  rw [if_pos (wanted_ok hl (o := ⟨none, op, T, pos, aft, g⟩) hg)]
  left
  unfold Oper.wp
  rw [hr]
  exact k
/-- clear(x) of a slice -/
theorem w_clear {t e size bytes b o m c : Nat} {l : List Value} {z1 : Value} (hl : Sl n L a) (hh : Has D w0 F w) (hg : GuardOk ops L g) (ht : appOk P t e size bytes = true) (hz1 : zeroOk P e z1) (h1 : z1.cells.toList.all (·.oneCell') = true)
    (hx : val L x = some (.slice (some ⟨b, o, none⟩) m c)) (hf : Find F b (C l e) G) (ho : o + m * size ≤ l.length)
    (k : ∀ zs w', zs.length = m * size → Has D w0 ((b, C (setL l o zs) e) :: G) w' → K a w') :
    OpW P ops Q ⟨none, .call { callee := .builtin .clear, args := #[x], argTypes := #[t] }, T, pos, aft, g⟩ K a w := by
  have hm := hh.mem b _ hf.mem
  obtain ⟨inf, z, hu, hi, hz, rfl, rfl, hzs⟩ := appOk_spec ht
  obtain rfl : z1 = z := by
    unfold zeroOk at hz1
    rw [hi] at hz1
    simp only [Option.map_some, Option.some.injEq] at hz1
    rw [hz] at hz1
    exact (Option.some.inj hz1).symm
  have hlen := zeroCells_len z1.cells m
  rw [hzs] at hlen
  by_cases h0 : m = 0
  · subst h0
    refine wl_val0 hl hg (v := .tuple #[]) (w' := w) ?_ (k [] w (by simp) ?_)
    · simp [Gives, execOp, resolve, invoke, builtin, hl.ev hx, Builtin.clear_, run_underlying hu]
    · have e1 : setL l o [] = l := by unfold setL; simp
      rw [e1]; exact hh.perm hf.perm
  · have hst := run_storeC (P := P) (vs := (Builtin.zeroCells z1.cells m).toList) (o := o) hm (by rw [hlen]; exact ho) (zeroCells_all h1)
    refine wl_val0 hl hg (v := .tuple #[]) (w' := w.setRow b ⟨setL l o (Builtin.zeroCells z1.cells m).toList⟩) ?_ (k _ _ hlen (hh.write hf (heap_setRow hm) rfl rfl rfl))
    obtain ⟨m', rfl⟩ : ∃ m', m = m' + 1 := ⟨m - 1, by omega⟩
    simp [Gives, execOp, resolve, invoke, builtin, hl.ev hx, Builtin.clear_, run_underlying hu, zeroValue, typeInfo, hi, hz, hst]
theorem row_val1 {v : Value} {m : Nat} {xs : List Value} {size : Nat} {e : TypeId} {E : List (Nat × Obj)} (h : Row v m xs size e E) : ∃ p c, v = .slice p m c := by
  rcases h with ⟨rfl, rfl, _⟩ | ⟨b, cap, junk, rfl, _⟩
  · exact ⟨_, _, rfl⟩
  · exact ⟨_, _, rfl⟩
/-- x[i:j:m] -/
theorem w_slice3 {d : Nat} {t : TypeId} {size len cap i j m : Nat} {p : Option Addr} {y z u : Operand} (hl : Sl n L a) (hd : Nat.blt d n = true) (hg : GuardOk ops L g) (ht : slcOk P t size = true)
    (hx : val L x = some (.slice p len cap)) (hy : val L y = some (.int .i64 (i : Int))) (hz : val L z = some (.int .i64 (j : Int))) (hu : val L u = some (.int .i64 (m : Int))) (h : i ≤ j ∧ j ≤ m ∧ m ≤ cap)
    (k : ∀ p' a', Sl n ((d, .slice p' (j - i) (m - i)) :: L) a' → K a' w) :
    OpW P ops Q ⟨some d, .slice t x (some y) (some z) (some u), T, pos, aft, g⟩ K a w := by
  obtain ⟨e, inf, h2, h3, rfl⟩ := slcOk_spec ht
  obtain ⟨h4, h5, h6⟩ := h
  refine wl_val hl hd hg (v := .slice (if m = i then p else p.map (·.add (i * inf.size))) (j - i) (m - i)) (w' := w) ?_ (fun a' hl' => k _ a' hl')
  by_cases c : m = i
  · obtain rfl : j = i := by omega
    subst c
    simp [Gives, execOp, hl.ev hx, hl.ev hy, hl.ev hz, hl.ev hu, Instr.sliceAt, Instr.slice, run_underlying h2, Instr.sliceBounds, Instr.sliceBound, asIntOf, sizeOf, typeInfo, h3, h6]
  · simp [Gives, execOp, hl.ev hx, hl.ev hy, hl.ev hz, hl.ev hu, Instr.sliceAt, Instr.slice, run_underlying h2, Instr.sliceBounds, Instr.sliceBound, asIntOf, sizeOf, typeInfo, h3, h4, h5, h6, c]
/-- append(x, y...), x empty, y only read, both no nil -/
theorem w_appendRow {d : Nat} {t e size bytes cnt b1 c1 b cap : Nat} {y : Operand} {xs junk : List Value} {E1 : List (Nat × Obj)} (hl : Sl n L a) (hh : Has D w0 F w) (hd : Nat.blt d n = true) (hg : GuardOk ops L g) (ht : appOk P t e size bytes = true) (hs0 : Nat.blt 0 size = true)
    (hx : val L x = some (.slice (some ⟨b1, 0, none⟩) 0 c1)) (hy : val L y = some (.slice (some ⟨b, 0, none⟩) cnt cap)) (hR1 : Row (.slice (some ⟨b1, 0, none⟩) 0 c1) 0 [] size e E1) (hp : Keeps F E1 G) (hm : w.heap[b]? = some (C (xs ++ junk) e)) (h2 : xs.length = cnt * size) (h1 : xs.all (·.oneCell') = true) (hb : cnt * bytes ≤ 70368744177664) (hb2 : cnt ≤ 4611686018427387904) (hby : bytes ≤ 4294967296)
    (k : ∀ v' E' a' w', Row v' cnt xs size e E' → Sl n ((d, v') :: L) a' → Has D w0 (E' ++ G) w' → K a' w') :
    OpW P ops Q ⟨some d, .call { callee := .builtin .append, args := #[x, y], argTypes := #[t, t] }, T, pos, aft, g⟩ K a w := by
  by_cases h0 : cnt = 0
  · subst h0
    have hxs : xs = [] := by rw [Nat.zero_mul] at h2; exact List.eq_nil_of_length_eq_zero h2
    subst hxs
    exact wl_val hl hd hg (r_append0 hl hx hy ht (by omega)) fun a' hl' => k _ E1 a' w hR1 hl' (hh.perm hp.perm)
  · refine w_append (news := xs) hl hh hd hg ht hs0 hx hy hR1 hp hm (by rw [List.drop_zero]; simp) h2 h1 (by omega) (by rw [Nat.zero_add]; exact hb) (by omega) hby ?_
    intro v' E' a' w' hR' hl' hh'
    rw [Nat.zero_add, List.nil_append] at hR'
    exact k v' E' a' w' hR' hl' hh'
end clr
section del
variable {α : Type} {f : α → List Value} {s : Nat}
/-- some elements go out -/
theorem del_setG (hs : ∀ a, (f a).length = s) (l : List α) (junk : List Value) (i j o2 m : Nat) (hi : i ≤ j) (hj : j ≤ l.length) (hm : m = l.length - j) (ho : m = 0 ∨ o2 = j * s) :
    ∃ junk', setL (fl f l ++ junk) (i * s) (((fl f l ++ junk).drop o2).take (m * s)) = fl f (l.take i ++ l.drop j) ++ junk' ∧ (fl f (l.take i ++ l.drop j) ++ junk').length = (fl f l ++ junk).length := by
  have hA : (fl f (l.take i)).length = i * s := by rw [fl_len hs, List.length_take]; congr 1; omega
  have hB : (fl f (l.drop j)).length = m * s := by rw [fl_len hs, List.length_drop, hm]
  have hc : (fl f ((l.drop i).take (j - i))).length = (j - i) * s := by rw [fl_len hs, List.length_take, List.length_drop]; congr 1; omega
  have hsp : fl f l = fl f (l.take i) ++ fl f ((l.drop i).take (j - i)) ++ fl f (l.drop j) := by
    rw [← fl_append, ← fl_append]; congr 1
    have : l.drop j = (l.drop i).drop (j - i) := by rw [List.drop_drop]; congr 1; omega
    rw [this, List.append_assoc, List.take_append_drop, List.take_append_drop]
  rw [hsp, fl_append]
  generalize fl f (l.take i) = A at hA
  generalize fl f (l.drop j) = B at hB
  generalize fl f ((l.drop i).take (j - i)) = y at hc
  have hN : ((A ++ y ++ B ++ junk).drop o2).take (m * s) = B := by
    rcases ho with h0 | h0
    · subst h0
      rw [Nat.zero_mul] at hB ⊢
      rw [List.take_zero, List.eq_nil_of_length_eq_zero hB]
    · have : o2 = (A ++ y).length := by rw [h0, List.length_append, hA, hc, ← Nat.add_mul]; congr 1; omega
      rw [this, List.append_assoc, List.drop_left, ← hB, List.take_left]
  rw [hN, ← hA]
  unfold setL
  have h1 : (A ++ y ++ B ++ junk).take A.length = A := by rw [List.append_assoc, List.append_assoc, List.take_left]
  rw [h1]
  refine ⟨_, rfl, ?_⟩
  simp only [List.length_append, List.length_drop]; omega
theorem clr_set {A J zs : List Value} {o : Nat} (h : o = A.length) (hz : zs.length ≤ J.length) : ∃ J', setL (A ++ J) o zs = A ++ J' ∧ J'.length = J.length := by
  subst h
  refine ⟨zs ++ J.drop zs.length, ?_, by simp; omega⟩
  unfold setL
  rw [List.take_left, List.append_assoc, List.drop_append]
  simp
end del
end Go.Eng

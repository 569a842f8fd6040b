import Derived.Test.Qxb6500908aGreatEng
import Derived.Test.Qxb6500908aGreatMks
set_option linter.unusedVariables false
set_option linter.unusedSimpArgs false
namespace Go.Eng
section cut
variable {P : Program} {n : Nat} {L : List (Nat × Value)} {a : Act} {w : World} {T : TypeId} {pos : String} {aft : Array Edge} {g : Option (Nat × Bool)} {dst : Option Nat} {x y : Operand}
variable {ops : Array Oper} {Q : Exit → Act → World → Prop} {K : Act → World → Prop} {D : List Nat} {w0 : World} {F G : List (Nat × Obj)}
theorem r_appendNil0 {t e size bytes c2 : Nat} {p : Option Addr} (hl : Sl n L a) (hx : val L x = some (.slice none 0 0)) (hy : val L y = some (.slice p 0 c2)) (ht : appOk P t e size bytes = true) :
    Gives P a ⟨dst, .call { callee := .builtin .append, args := #[x, y], argTypes := #[t, t] }, T, pos, aft, g⟩ w (.slice none 0 0) w := by
  obtain ⟨i, z, hu, hi, hz, rfl, rfl, hzs⟩ := appOk_spec ht
  cases p with
  | none => simp [Gives, execOp, resolve, invoke, builtin, hl.ev hx, hl.ev hy, Builtin.append_, run_underlying hu, sizeOf, typeInfo, hi, Builtin.lenOf, Builtin.firstCells, loadCells, loadCellsFrom, storeCells, Sem.run]
  | some p => simp [Gives, execOp, resolve, invoke, builtin, hl.ev hx, hl.ev hy, Builtin.append_, run_underlying hu, sizeOf, typeInfo, hi, Builtin.lenOf, Builtin.firstCells, loadCells, loadCellsFrom, storeCells, Sem.run]
/-- append(nil, v...): a copy of a row that is only read -/
theorem w_appendCopy {d : Nat} {t e size bytes cnt : Nat} {v : Value} {xs : List Value} {Es : List (Nat × Obj)} (hl : Sl n L a) (hh : Has D w0 F w) (hd : Nat.blt d n = true) (hg : GuardOk ops L g) (ht : appOk P t e size bytes = true) (hs0 : Nat.blt 0 size = true)
    (hx : val L x = some (.slice none 0 0)) (hy : val L y = some v) (hR : Row v cnt xs size e Es) (hm : Mem Es w) (h1 : xs.all (·.oneCell') = true) (hb : cnt * bytes ≤ 70368744177664) (hb2 : cnt ≤ 4611686018427387904) (hby : bytes ≤ 4294967296)
    (k : ∀ v' E' a' w', Row v' cnt xs size e E' → Sl n ((d, v') :: L) a' → Has D w0 (E' ++ F) w' → K a' w') :
    OpW P ops Q ⟨some d, .call { callee := .builtin .append, args := #[x, y], argTypes := #[t, t] }, T, pos, aft, g⟩ K a w := by
  rcases hR with ⟨rfl, rfl, rfl, rfl⟩ | ⟨b, cap, junk, rfl, h2, h3, h4, rfl⟩
  · exact wl_val hl hd hg (r_appendNil0 hl hx hy ht) fun a' hl' => k _ [] a' w (Row.nil _ _) hl' hh
  · by_cases h0 : cnt = 0
    · subst h0
      have : xs = [] := by rw [Nat.zero_mul] at h2; exact List.eq_nil_of_length_eq_zero h2
      subst this
      exact wl_val hl hd hg (r_appendNil0 hl hx hy ht) fun a' hl' => k _ [] a' w (Row.nil _ _) hl' hh
    · refine w_append (news := xs) hl hh hd hg ht hs0 hx hy (Row.nil _ _) keeps_nil (hm _ _ (List.mem_singleton.2 rfl)) (by rw [List.drop_zero]; simp) h2 h1 (by omega) (by rw [Nat.zero_add]; exact hb) (by omega) hby ?_
      intro v' E' a' w' hR' hl' hh'
      rw [Nat.zero_add, List.nil_append] at hR'
      exact k v' E' a' w' hR' hl' hh'
/-- append(x[:i], x[j:]...) within one block -/
theorem w_appendCut {d : Nat} {t e size bytes b i m cap o2 c2 : Nat} {l : List Value} (hl : Sl n L a) (hh : Has D w0 F w) (hd : Nat.blt d n = true) (hg : GuardOk ops L g) (ht : appOk P t e size bytes = true)
    (hx : val L x = some (.slice (some ⟨b, 0, none⟩) i cap)) (hy : val L y = some (.slice (some ⟨b, o2, none⟩) m c2)) (hf : Find F b (C l e) G) (hn : i + m ≤ cap) (hlen : l.length = cap * size) (ho : m = 0 ∨ o2 + m * size ≤ l.length) (h1 : ((l.drop o2).take (m * size)).all (·.oneCell') = true)
    {l' : List Value} (hset : setL l (i * size) ((l.drop o2).take (m * size)) = l')
    (k : ∀ a' w', Sl n ((d, .slice (some ⟨b, 0, none⟩) (i + m) cap) :: L) a' → Has D w0 ((b, C l' e) :: G) w' → K a' w') :
    OpW P ops Q ⟨some d, .call { callee := .builtin .append, args := #[x, y], argTypes := #[t, t] }, T, pos, aft, g⟩ K a w := by
  have hm := hh.mem b _ hf.mem
  by_cases h0 : m = 0
  · subst h0
    subst hset
    have e1 : setL l (i * size) ((l.drop o2).take (0 * size)) = l := by
      rw [Nat.zero_mul, List.take_zero]; unfold setL
      simp
    refine wl_val hl hd hg (r_append0 hl hx hy ht (by omega)) fun a' hl' => k a' w hl' ?_
    rw [e1]
    exact hh.perm hf.perm
  · obtain ⟨inf, z, hu, hi, hz, rfl, rfl, hzs⟩ := appOk_spec ht
    have hol : o2 + m * inf.size ≤ l.length := by omega
    have hcl : ((l.drop o2).take (m * inf.size)).length = m * inf.size := by rw [List.length_take, List.length_drop]; omega
    have hfit : i * inf.size + ((l.drop o2).take (m * inf.size)).length ≤ (⟨l⟩ : Array Value).size := by
      have := Nat.mul_le_mul_right inf.size hn
      rw [Nat.add_mul] at this
      rw [hcl]; simp only [List.size_toArray, hlen]; exact this
    have hr := run_append_room (P := P) w t T e inf hu hi b i cap ⟨l⟩ hm ⟨b, o2, none⟩ m c2 ((l.drop o2).take (m * inf.size)) hcl (fun j u hj => by
      rw [add_off]
      have hlt : j < m * inf.size := by have := (List.getElem?_eq_some_iff.1 hj).1; omega
      rw [List.getElem?_take, if_pos hlt, List.getElem?_drop] at hj
      simp only [World.cell?, hm, C]
      simpa using hj) (fun u hu => by simpa using List.all_eq_true.1 h1 u hu) hn hfit
    refine wl_val hl hd hg (v := .slice (some ⟨b, 0, none⟩) (i + m) cap) (w' := w.setRow b ⟨setL l (i * inf.size) ((l.drop o2).take (m * inf.size))⟩) ?_ fun a' hl' => k a' _ hl' (hset ▸ hh.write hf (heap_setRow hm) rfl rfl rfl)
    simp only [Gives, execOp, resolve, invoke, builtin]
    simp [hl.ev hx, hl.ev hy, hr, setL]
end cut
/-- cells of a list of things of one size -/
def fl {α : Type} (f : α → List Value) (l : List α) : List Value := (l.map f).flatten
section fl
variable {α : Type} {f : α → List Value} {s : Nat}
theorem fl_append (l m : List α) : fl f (l ++ m) = fl f l ++ fl f m := by simp [fl]
theorem fl_cons (a : α) (l : List α) : fl f (a :: l) = f a ++ fl f l := by simp [fl]
theorem fl_len (hs : ∀ a, (f a).length = s) : ∀ l : List α, (fl f l).length = l.length * s
  | [] => by simp [fl]
  | a :: l => by rw [fl_cons, List.length_append, hs, fl_len hs l, List.length_cons, Nat.succ_mul]; omega
theorem fl_all (h1 : ∀ a, (f a).all (·.oneCell') = true) (l : List α) : (fl f l).all (·.oneCell') = true := by
  rw [List.all_eq_true]
  intro v hv
  obtain ⟨xs, hx, hv⟩ := List.mem_flatten.1 hv
  obtain ⟨a, _, rfl⟩ := List.mem_map.1 hx
  exact List.all_eq_true.1 (h1 a) v hv
theorem fl_split (l : List α) (i : Nat) : fl f l = fl f (l.take i) ++ fl f (l.drop i) := by rw [← fl_append, List.take_append_drop]
theorem fl_at (hs : ∀ a, (f a).length = s) {l : List α} {i : Nat} {c : α} (h : l[i]? = some c) (junk : List Value) : ((fl f l ++ junk).drop (0 + i * s)).take s = f c := by
  obtain ⟨hi, rfl⟩ := List.getElem?_eq_some_iff.1 h
  have hd : l.drop i = l[i] :: l.drop (i + 1) := List.drop_eq_getElem_cons hi
  rw [fl_split l i, hd, fl_cons]
  have hA : (fl f (l.take i)).length = i * s := by rw [fl_len hs, List.length_take]; congr 1; omega
  rw [Nat.zero_add, List.append_assoc, ← hA, List.drop_left, List.append_assoc]
  have := hs l[i]
  rw [← this, List.take_left]
theorem setL_mid (A B C' N : List Value) (h : N.length = B.length) : setL (A ++ B ++ C') A.length N = A ++ N ++ C' := by
  have h1 : (A ++ B ++ C').take A.length = A := by rw [List.append_assoc, List.take_left]
  have h2 : (A ++ B ++ C').drop (A.length + N.length) = C' := by rw [h, ← List.length_append, List.drop_left]
  unfold setL
  rw [h1, h2]
/-- an element goes in -/
theorem ins_set (hs : ∀ a, (f a).length = s) (l : List α) (r : α) (z junk : List Value) (hz : z.length = s) (i od c : Nat) (hi : i ≤ l.length) (hc : c = l.length - i) (ho : c = 0 ∨ od = (i + 1) * s) :
    setL (setL (fl f l ++ z ++ junk) od (((fl f l ++ z ++ junk).drop (i * s)).take (c * s))) (i * s) (f r) = fl f (l.take i ++ r :: l.drop i) ++ junk := by
  have hA : (fl f (l.take i)).length = i * s := by rw [fl_len hs, List.length_take]; congr 1; omega
  have hB : (fl f (l.drop i)).length = c * s := by rw [fl_len hs, List.length_drop, hc]
  have hg : fl f (l.take i ++ r :: l.drop i) ++ junk = fl f (l.take i) ++ f r ++ (fl f (l.drop i) ++ junk) := by rw [fl_append, fl_cons]; simp
  rw [hg, fl_split l i]
  generalize fl f (l.take i) = A at hA
  generalize fl f (l.drop i) = B at hB
  have h1 : (A ++ B ++ z ++ junk).drop (i * s) = B ++ z ++ junk := by rw [← hA, List.append_assoc, List.append_assoc, List.drop_left]; simp
  have h2 : (B ++ z ++ junk).take (c * s) = B := by rw [← hB, List.append_assoc, List.take_left]
  rw [h1, h2]
  have h3 : ∃ y, y.length = s ∧ setL (A ++ B ++ z ++ junk) od B = A ++ y ++ (B ++ junk) := by
    rcases ho with h0 | h0
    · subst h0
      rw [Nat.zero_mul] at hB
      obtain rfl := List.eq_nil_of_length_eq_zero hB
      refine ⟨z, hz, ?_⟩
      unfold setL; simp
    · obtain ⟨u, d, hud, hu⟩ : ∃ u d, B ++ z = u ++ d ∧ u.length = s := ⟨(B ++ z).take s, (B ++ z).drop s, (List.take_append_drop _ _).symm, by rw [List.length_take, List.length_append]; omega⟩
      have hdl : d.length = B.length := by
        have := congrArg List.length hud
        rw [List.length_append, List.length_append] at this; omega
      have e1 : A ++ B ++ z ++ junk = (A ++ u) ++ d ++ junk := by rw [List.append_assoc A B z, hud]; simp
      have e2 : od = (A ++ u).length := by rw [h0, List.length_append, hu, hA, Nat.succ_mul]
      refine ⟨u, hu, ?_⟩
      rw [e1, e2, setL_mid _ _ _ _ hdl.symm]
      simp
  obtain ⟨y, hy, e⟩ := h3
  rw [e, ← hA, setL_mid _ _ _ _ (by rw [hs, hy])]
/-- an element goes out -/
theorem del_set (hs : ∀ a, (f a).length = s) (l : List α) (junk : List Value) (i o2 m : Nat) (hi : i < l.length) (hm : m = l.length - i - 1) (ho : m = 0 ∨ o2 = (i + 1) * s) :
    ∃ junk', setL (fl f l ++ junk) (i * s) (((fl f l ++ junk).drop o2).take (m * s)) = fl f (l.take i ++ l.drop (i + 1)) ++ junk' ∧ (fl f (l.take i ++ l.drop (i + 1)) ++ junk').length = (fl f l ++ junk).length := by
  have hA : (fl f (l.take i)).length = i * s := by rw [fl_len hs, List.length_take]; congr 1; omega
  have hB : (fl f (l.drop (i + 1))).length = m * s := by rw [fl_len hs, List.length_drop, hm, Nat.sub_sub]
  have hc := hs l[i]
  have hsp : fl f l = fl f (l.take i) ++ f l[i] ++ fl f (l.drop (i + 1)) := by rw [fl_split l i, List.drop_eq_getElem_cons hi, fl_cons]; simp
  rw [hsp, fl_append]
  generalize fl f (l.take i) = A at hA
  generalize fl f (l.drop (i + 1)) = B at hB
  generalize f l[i] = y at hc
  have hN : ((A ++ y ++ B ++ junk).drop o2).take (m * s) = B := by
    rcases ho with h0 | h0
    · subst h0
      rw [Nat.zero_mul] at hB ⊢
      rw [List.take_zero, List.eq_nil_of_length_eq_zero hB]
    · have : o2 = (A ++ y).length := by rw [h0, List.length_append, hA, hc, Nat.succ_mul]
      rw [this, List.append_assoc, List.drop_left, ← hB, List.take_left]
  rw [hN, ← hA]
  unfold setL
  have h1 : (A ++ y ++ B ++ junk).take A.length = A := by rw [List.append_assoc, List.append_assoc, List.take_left]
  rw [h1]
  refine ⟨_, rfl, ?_⟩
  simp only [List.length_append, List.length_drop]; omega
end fl
end Go.Eng

import Derived.Test.Qxb6500908aGreatEng
import Derived.Test.Qxb6500908aGreatCut
import Derived.Test.Qxb6500908aGreatRw
set_option linter.unusedVariables false
set_option linter.unusedSimpArgs false
namespace Go.Eng
section vw
variable {P : Program} {n : Nat} {L : List (Nat × Value)} {a : Act} {w : World} {x y : Operand} {T : TypeId} {pos : String} {aft : Array Edge} {g : Option (Nat × Bool)} {dst : Option Nat}
variable {ops : Array Oper} {Q : Exit → Act → World → Prop} {K : Act → World → Prop} {D : List Nat} {w0 : World} {F G : List (Nat × Obj)}
/-- a stretch of a row that lies in blocks which are only read -/
def VwZ (size : Nat) (y : Value) (m : Nat) (news : List Value) (Z : List (Nat × Obj)) : Prop :=
  (m = 0 ∧ news = [] ∧ ∃ p c, y = .slice p 0 c ∧ ∀ q, p = some q → q.spot = none) ∨ ∃ b o c l T, 0 < m ∧ y = .slice (some ⟨b, o, none⟩) m c ∧ m ≤ c ∧ (b, C l T) ∈ Z ∧ (l.drop o).take news.length = news ∧ news.length = m * size
theorem VwZ.mono {size : Nat} {y : Value} {m : Nat} {news : List Value} {Z Z' : List (Nat × Obj)} (h : VwZ size y m news Z) (hz : ∀ x, x ∈ Z → x ∈ Z') : VwZ size y m news Z' := by
  rcases h with h | ⟨b, o, c, l, T, h1, h2, h3, h4, h5⟩
  · exact .inl h
  · exact .inr ⟨b, o, c, l, T, h1, h2, h3, hz _ h4, h5⟩
theorem VwZ.sl {size : Nat} {y : Value} {m : Nat} {news : List Value} {Z : List (Nat × Obj)} (h : VwZ size y m news Z) : ∃ p c, y = .slice p m c := by
  rcases h with ⟨rfl, _, p, c, rfl, _⟩ | ⟨b, o, c, l, T, _, rfl, _⟩
  · exact ⟨p, c, rfl⟩
  · exact ⟨_, c, rfl⟩
theorem VwZ.one {size : Nat} {y : Value} {m : Nat} {news : List Value} {Z : List (Nat × Obj)} (h : VwZ size y m news Z) : y.oneCell' = true := by
  obtain ⟨p, c, rfl⟩ := h.sl; rfl
theorem VwZ.of {v : Value} {cnt size : Nat} {xs : List Value} {e : TypeId} {E : List (Nat × Obj)} (h : Row v cnt xs size e E) : VwZ size v cnt xs E := by
  rcases h with ⟨rfl, rfl, rfl, rfl⟩ | ⟨b, cap, junk, rfl, h1, h2, h3, rfl⟩
  · exact .inl ⟨rfl, rfl, none, 0, rfl, fun _ q => by cases q⟩
  · by_cases c : cnt = 0
    · subst c
      have : xs = [] := by rw [Nat.zero_mul] at h1; exact List.eq_nil_of_length_eq_zero h1
      exact .inl ⟨rfl, this, _, cap, rfl, fun q e => by cases e; rfl⟩
    · exact .inr ⟨b, 0, cap, xs ++ junk, e, by omega, rfl, h3, by simp, by rw [List.drop_zero]; simp, h1⟩
theorem VwZ.nil (size : Nat) (Z : List (Nat × Obj)) : VwZ size (.slice none 0 0) 0 [] Z := .inl ⟨rfl, rfl, none, 0, rfl, fun _ q => by cases q⟩
/-- where it lies, if there is something -/
theorem VwZ.blk {size : Nat} {y : Value} {m : Nat} {news : List Value} {Z : List (Nat × Obj)} (h : VwZ size y m news Z) (h0 : 0 < m) : ∃ b o c l T, y = .slice (some ⟨b, o, none⟩) m c ∧ m ≤ c ∧ (b, C l T) ∈ Z ∧ (l.drop o).take news.length = news ∧ news.length = m * size := by
  rcases h with ⟨rfl, _⟩ | ⟨b, o, c, l, T, _, h2, h3, h4, h5, h6⟩
  · omega
  · exact ⟨b, o, c, l, T, h2, h3, h4, h5, h6⟩
theorem vw_cell {l news : List Value} {o j : Nat} {v : Value} (h : (l.drop o).take news.length = news) (hj : news[j]? = some v) : l[o + j]? = some v := by
  rw [← h, List.getElem?_take] at hj
  split at hj
  · rwa [List.getElem?_drop] at hj
  · cases hj
theorem vw_cells {l news : List Value} {o j s : Nat} (h : (l.drop o).take news.length = news) (hj : j + s ≤ news.length) : (l.drop (o + j)).take s = (news.drop j).take s := by
  rw [← h, List.drop_take, List.take_take, List.drop_drop, Nat.min_eq_left (by omega)]
theorem vw_take {size b o m c i : Nat} {l news : List Value} {Z : List (Nat × Obj)} {T : TypeId} (hZ : (b, C l T) ∈ Z) (h5 : (l.drop o).take news.length = news) (h6 : news.length = m * size) (hi : i ≤ m) (hc : m ≤ c) : VwZ size (.slice (some ⟨b, o, none⟩) i c) i (news.take (i * size)) Z := by
  by_cases h0 : i = 0
  · subst h0; exact .inl ⟨rfl, by simp, _, c, rfl, fun q e => by cases e; rfl⟩
  · have hle : i * size ≤ news.length := by rw [h6]; exact Nat.mul_le_mul_right _ hi
    refine .inr ⟨b, o, c, l, T, by omega, rfl, by omega, hZ, ?_, by rw [List.length_take]; omega⟩
    rw [List.length_take, Nat.min_eq_left hle]
    conv => rhs; rw [← h5]
    rw [List.take_take, Nat.min_eq_left hle]
theorem vw_drop {size b o m c i : Nat} {l news : List Value} {Z : List (Nat × Obj)} {T : TypeId} (hZ : (b, C l T) ∈ Z) (h5 : (l.drop o).take news.length = news) (h6 : news.length = m * size) (hi : i ≤ m) (hc : m ≤ c) : VwZ size (.slice (if c = i then some ⟨b, o, none⟩ else some ⟨b, o + i * size, none⟩) (m - i) (c - i)) (m - i) (news.drop (i * size)) Z := by
  by_cases h0 : i = m
  · subst h0
    rw [Nat.sub_self]
    refine .inl ⟨rfl, by rw [List.drop_eq_nil_iff, h6]; exact Nat.le_refl _, _, _, rfl, fun q e => ?_⟩
    split at e <;> (cases e; rfl)
  · have hle : i * size ≤ news.length := by rw [h6]; exact Nat.mul_le_mul_right _ hi
    rw [if_neg (show ¬ c = i by omega)]
    refine .inr ⟨b, o + i * size, c - i, l, T, by omega, rfl, by omega, hZ, ?_, ?_⟩
    · rw [List.length_drop, vw_cells h5 (by omega), List.take_of_length_le (by rw [List.length_drop]; exact Nat.le_refl _)]
    · rw [List.length_drop, h6, Nat.sub_mul]
theorem fl_takeS {α : Type} {f : α → List Value} {s : Nat} (hs : ∀ a, (f a).length = s) (l : List α) (i : Nat) (hi : i ≤ l.length) : (fl f l).take (i * s) = fl f (l.take i) := by
  rw [fl_split l i]
  have : (fl f (l.take i)).length = i * s := by rw [fl_len hs, List.length_take, Nat.min_eq_left hi]
  rw [← this, List.take_left]
theorem fl_dropS {α : Type} {f : α → List Value} {s : Nat} (hs : ∀ a, (f a).length = s) (l : List α) (i : Nat) (hi : i ≤ l.length) : (fl f l).drop (i * s) = fl f (l.drop i) := by
  rw [fl_split l i]
  have : (fl f (l.take i)).length = i * s := by rw [fl_len hs, List.length_take, Nat.min_eq_left hi]
  rw [← this, List.drop_left]
theorem r_append0g {t e size bytes cnt cap c2 : Nat} {p p2 : Option Addr} (hl : Sl n L a) (hx : val L x = some (.slice p cnt cap)) (hy : val L y = some (.slice p2 0 c2)) (ht : appOk P t e size bytes = true) (hc : cnt ≤ cap) (hp : p = none → cnt = 0 ∧ cap = 0) (hq : ∀ q, p = some q → q.spot = none) :
    Gives P a ⟨dst, .call { callee := .builtin .append, args := #[x, y], argTypes := #[t, t] }, T, pos, aft, g⟩ w (.slice p cnt cap) w := by
  obtain ⟨i, z, hu, hi, hz, rfl, rfl, hzs⟩ := appOk_spec ht
  cases p with
  | none =>
    obtain ⟨rfl, rfl⟩ := hp rfl
    exact r_appendNil0 hl hx hy ht
  | some q =>
    obtain ⟨b, o, s⟩ := q
    have : s = none := hq _ rfl
    subst this
    cases p2 with
    | none => simp [Gives, execOp, resolve, invoke, builtin, hl.ev hx, hl.ev hy, Builtin.append_, run_underlying hu, sizeOf, typeInfo, hi, Builtin.lenOf, hc, Builtin.firstCells, loadCells, loadCellsFrom, storeCells, Sem.run]
    | some p => simp [Gives, execOp, resolve, invoke, builtin, hl.ev hx, hl.ev hy, Builtin.append_, run_underlying hu, sizeOf, typeInfo, hi, Builtin.lenOf, hc, Builtin.firstCells, loadCells, loadCellsFrom, storeCells, Sem.run]
/-- append(x, y...): x a row of ours, y a stretch that is only read -/
theorem w_appendV {d : Nat} {t e size bytes cnt m : Nat} {v yv : Value} {xs news : List Value} {E Z : List (Nat × Obj)} (hl : Sl n L a) (hh : Has D w0 F w) (hd : Nat.blt d n = true) (hg : GuardOk ops L g) (ht : appOk P t e size bytes = true) (hs0 : Nat.blt 0 size = true)
    (hx : val L x = some v) (hy : val L y = some yv) (hR : Row v cnt xs size e E) (hp : Keeps F E G) (hV : VwZ size yv m news Z) (hZ : Mem Z w) (h1 : news.all (·.oneCell') = true) (hb : (cnt + m) * bytes ≤ 70368744177664) (hb2 : cnt + m ≤ 4611686018427387904) (hby : bytes ≤ 4294967296)
    (k : ∀ v' E' a' w', Row v' (cnt + m) (xs ++ news) size e E' → Sl n ((d, v') :: L) a' → Has D w0 (E' ++ G) w' → K a' w') :
    OpW P ops Q ⟨some d, .call { callee := .builtin .append, args := #[x, y], argTypes := #[t, t] }, T, pos, aft, g⟩ K a w := by
  rcases hV with ⟨rfl, rfl, p, c, rfl, hps⟩ | ⟨b, o, c, l, Tb, h0, rfl, h3, h4, h5, h6⟩
  · have hR2 := hR
    rcases hR with ⟨rfl, rfl, rfl, rfl⟩ | ⟨b, cap, junk, rfl, h2, h3, h4, rfl⟩
    · exact wl_val hl hd hg (r_appendNil0 hl hx hy ht) fun a' hl' => k _ [] a' w (Row.nil _ _) hl' (hh.perm hp.perm)
    · exact wl_val hl hd hg (r_append0g hl hx hy ht h4 (fun q => by cases q) (fun q e => by cases e; rfl)) fun a' hl' => k _ _ a' w (by rw [List.append_nil]; exact hR2) hl' (hh.perm hp.perm)
  · exact w_append (news := news) hl hh hd hg ht hs0 hx hy hR hp (hZ _ _ h4) h5 h6 h1 h0 hb hb2 hby k
/-- a value of no cells -/
theorem r_load0 {t : TypeId} {p : Addr} (hl : Sl n L a) (hx : val L x = some (.pointer (some p))) (ht : aggOk P t 0 = true) : Gives P a ⟨dst, .load t x, T, pos, aft, g⟩ w (.agg ⟨[]⟩) w := by
  simp [Gives, execOp, hl.ev hx, Instr.loadAt, Instr.sureAddr, loadVar, (aggOk_run ht).1, (aggOk_run ht).2, loadCells, loadCellsFrom]
/-- two results that lie in boxes -/
theorem f_retCC {fn : Func} {R : Value → List (Nat × Obj) → Prop} {t t2 : Nat} {ty ty2 T' T2 : TypeId} {b b2 m m2 : Nat} {l l2 : List Value} {F' G G1 G2 : List (Nat × Obj)} (hl : Sl n L a) (hh : Has D w0 F w) (hr : fn.results = #[.cell t ty, .cell t2 ty2]) (hv : look L t = some (.pointer (some ⟨b, 0, none⟩))) (hv2 : look L t2 = some (.pointer (some ⟨b2, 0, none⟩)))
    (ht : aggOk P ty m = true) (ht2 : aggOk P ty2 m2 = true) (hf : Find F b (C l T') G1) (hf2 : Find F b2 (C l2 T2) G2) (hn : l.length = m) (hn2 : l2.length = m2) (hp : Keeps F F' G) (hR : R (.tuple #[.agg ⟨l⟩, .agg ⟨l2⟩]) F') : bodyPost P fn (Post D w0 R) .ret a w :=
  ⟨hl.defers, .tuple #[.agg ⟨l⟩, .agg ⟨l2⟩], by simp [results, hr, hl.get t _ hv, hl.get t2 _ hv2, asAddr, run_loadVar_C ht (hh.mem b _ hf.mem) hn, run_loadVar_C ht2 (hh.mem b2 _ hf2.mem) hn2], F', hR, hh.keep hp⟩
end vw
end Go.Eng

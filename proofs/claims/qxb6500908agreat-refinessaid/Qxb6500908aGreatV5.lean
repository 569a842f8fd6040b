import Derived.Test.Qxb6500908aGreatV2
import Derived.Test.Qxb6500908aGreatU6
namespace Go.Proofs.Qxb6500908aGreat
open Go.Eng
set_option linter.unusedVariables false
set_option linter.unusedSimpArgs false
theorem one60 : oneOk Tryz.prog 60 = true := by kernel_rfl
theorem fl_part {α : Type} {f : α → List Value} {s : Nat} (hs : ∀ x, (f x).length = s) {l : List α} {i j : Nat} {c c' : α} {v : Value} (junk : List Value) (h : l[i]? = some c) (hj : j < s) (hc : setL (f c) j [v] = f c') : setL (fl f l ++ junk) (0 + i * s + j) [v] = fl f (l.set i c') ++ junk := by
  have hi : i < l.length := (List.getElem?_eq_some_iff.1 h).1
  rw [← fl_set hs l c' junk i hi, ← hc]
  have hA : (fl f (l.take i)).length = i * s := by rw [fl_len hs, List.length_take]; congr 1; omega
  have hy : l[i] = c := (List.getElem?_eq_some_iff.1 h).2
  have h1 : fl f l ++ junk = fl f (l.take i) ++ (f c ++ (fl f (l.drop (i + 1)) ++ junk)) := by rw [fl_split l i, List.drop_eq_getElem_cons hi, fl_cons, hy]; simp
  rw [h1]
  have hlen := hs c
  generalize fl f (l.take i) = A at hA
  generalize fl f (l.drop (i + 1)) ++ junk = B
  generalize f c = X at hlen
  unfold setL
  simp only [List.length_cons, List.length_nil, Nat.zero_add]
  rw [← hA]
  have e3 : List.take (A.length + j) A = A := List.take_of_length_le (by omega)
  have e4 : List.drop (A.length + j + 1) A = [] := List.drop_of_length_le (by omega)
  have e5 : (List.take j X ++ [v] ++ List.drop (j + 1) X).length = s := by simp; omega
  rw [e5, List.take_append, List.drop_append, List.drop_append, List.take_append, e3, e4, show A.length + j - A.length = j by omega, show A.length + j + 1 - A.length = j + 1 by omega, List.take_append, List.drop_append]
  have e6 : List.take A.length A = A := List.take_of_length_le (Nat.le_refl _)
  have e7 : List.drop (A.length + s) A = [] := List.drop_of_length_le (by omega)
  have e8 : List.drop s X = [] := List.drop_of_length_le (by omega)
  rw [show j - X.length = 0 by omega, show j + 1 - X.length = 0 by omega]
  simp [e6, e7, e8, show A.length + s - A.length = s by omega, hlen]

/-! ## one change, plainly -/
def befP (a l b m : Int) : Bool := decide (a < b) || (decide (a = b) && decide (l < m))
def atP (rs : List Rte) (a l : Int) : Nat := (rs.takeWhile fun r => befP r.a r.l a l).length
theorem atP_eq {rs : List Rte} {a l : Int} {k : Nat} (hk : k ≤ rs.length) (h : ∀ x, x ∈ rs.take k → befP x.a x.l a l = true) (h2 : ∀ x, rs[k]? = some x → befP x.a x.l a l = false) : atP rs a l = k := by
  unfold atP
  induction rs generalizing k with
  | nil => simp at hk ⊢; omega
  | cons r t ih =>
    cases k with
    | zero =>
      have := h2 r rfl
      rw [List.takeWhile_cons, this]; rfl
    | succ k =>
      have h3 := h r (by simp)
      rw [List.takeWhile_cons, h3]
      simp only [if_true, List.length_cons]
      rw [ih (by simp at hk; omega) (fun x hx => h x (by simp [hx])) (fun x hx => h2 x (by simpa using hx))]
def thP (rs : List Rte) (k : Nat) (a l : Int) : Bool := match rs[k]? with
  | some r => decide (r.a = a ∧ r.l = l)
  | none => false
def insP {α : Type} (l : List α) (i : Nat) (x : α) : List α := l.take i ++ x :: l.drop i
def delP {α : Type} (l : List α) (i : Nat) : List α := l.take i ++ l.drop (i + 1)
theorem insP_len {α : Type} {l : List α} {i : Nat} {x : α} (h : i ≤ l.length) : (insP l i x).length = l.length + 1 := by unfold insP; simp; omega
theorem delP_len {α : Type} {l : List α} {i : Nat} (h : i < l.length) : (delP l i).length = l.length - 1 := by unfold delP; simp; omega
theorem insP_mem {α : Type} {l : List α} {i : Nat} {x y : α} (h : y ∈ insP l i x) : y = x ∨ y ∈ l := by
  unfold insP at h
  rcases List.mem_append.1 h with h | h
  · exact .inr (List.mem_of_mem_take h)
  · rcases List.mem_cons.1 h with h | h
    · exact .inl h
    · exact .inr (List.mem_of_mem_drop h)
theorem delP_mem {α : Type} {l : List α} {i : Nat} {y : α} (h : y ∈ delP l i) : y ∈ l := by
  unfold delP at h
  rcases List.mem_append.1 h with h | h
  · exact List.mem_of_mem_take h
  · exact List.mem_of_mem_drop h
def sh1 (b : Int) : Int := IntKind.u16.wrap (1 * 2 ^ (min b.toNat IntKind.u16.bits))
def setB (x b : Int) (up : Bool) : Int := if up then bitsOf .or .u16 (bitsOf .andNot .u16 x (sh1 b)) (sh1 b) else bitsOf .andNot .u16 x (sh1 b)
def NtP.up (n : NtP) (i : Nat) (d : DvP) : NtP := ⟨n.dv.set i d, n.ln⟩
/-- one change -/
def stP (n : NtP) (c : Ch) : Option NtP :=
  let i := c.dv.toNat
  let d := n.d i
  let k := atP d.rs c.ra c.rl
  let room := decide (d.rs.length + d.al.length < 64)
  if c.kd = 0 then (if thP d.rs k c.ra c.rl || !room then none else some (n.up i ⟨insP d.rs k ⟨c.ra, c.rl, c.via⟩, d.al, d.f⟩))
  else if c.kd = 1 then (if thP d.rs k c.ra c.rl then some (n.up i ⟨delP d.rs k, d.al, d.f⟩) else none)
  else if c.kd = 2 then (if decide ((d.al.length : Int) < c.ix) || !room then none else some (n.up i ⟨d.rs, insP d.al c.ix.toNat ⟨c.pm, c.da, c.dl, c.cl⟩, d.f⟩))
  else if c.kd = 3 then (if (d.al.length : Int) ≤ c.ix then none else some (n.up i ⟨d.rs, delP d.al c.ix.toNat, d.f⟩))
  else if c.kd = 4 then some ⟨n.dv, (n.ln.set i (setB (n.l i) c.pr c.up)).set c.pr.toNat (setB ((n.ln.set i (setB (n.l i) c.pr c.up))[c.pr.toNat]?.getD 0) c.dv c.up)⟩
  else if c.kd = 5 then some (n.up i ⟨d.rs, d.al, setB d.f c.pr c.up⟩)
  else some n
/-- a device whose lists are ours -/
structure DvS (d : DvV) (RE AE : List (Nat × Obj)) : Prop where
  r : Row (.slice d.rp d.rs.length d.rc) d.rs.length (fl rtc d.rs) 3 96 RE
  a : Row (.slice d.ap d.al.length d.ac) d.al.length (fl ruc d.al) 4 98 AE
  rb : ∀ x, x ∈ d.rs → x.ok
  ab : ∀ x, x ∈ d.al → x.ok
  f : 0 ≤ d.f ∧ d.f ≤ 65535
  n : d.rs.length + d.al.length ≤ 64
theorem DvS.ok {d : DvV} {RE AE Z : List (Nat × Obj)} (h : DvS d RE AE) (h1 : InZ RE Z) (h2 : InZ AE Z) : d.ok Z := ⟨⟨RE, h.r, h1⟩, ⟨AE, h.a, h2⟩, h.rb, h.ab, h.f, h.n⟩
structure NtD (n : NtV) : Prop where
  dl : n.dv.length = 16
  ll : n.ln.length = 16
  l : ∀ x, x ∈ n.ln → 0 ≤ x ∧ x ≤ 65535
theorem NtD.len {n : NtV} (h : NtD n) : n.c.length = 64 := by
  unfold NtV.c; rw [List.length_append, fl_len dvc_len, fl_len lnc_len, h.dl, h.ll]
theorem NtD.cell {n : NtV} {i j : Nat} {d : DvV} {v : Value} (hd : n.dv[i]? = some d) (hv : d.c[j]? = some v) : n.c[i * 3 + j]? = some v := by
  have hj : j < 3 := by have := (List.getElem?_eq_some_iff.1 hv).1; rw [dvc_len] at this; exact this
  have h1 : (n.c.drop (i * 3)).take 3 = d.c := by
    have := fl_at dvc_len hd (fl lnc n.ln)
    rw [Nat.zero_add] at this; exact this
  have h2 : ((n.c.drop (i * 3)).take 3)[j]? = some v := by rw [h1]; exact hv
  rw [List.getElem?_take, if_pos hj, List.getElem?_drop] at h2; exact h2
theorem NtD.lat {n : NtV} (h : NtD n) {i : Nat} {x : Int} (hx : n.ln[i]? = some x) : n.c[48 + i]? = some (.int .u16 x) := by
  unfold NtV.c
  rw [List.getElem?_append_right (by rw [fl_len dvc_len, h.dl]; omega), fl_len dvc_len, h.dl, show 48 + i - 16 * 3 = i by omega]
  have := fl_cell1 (f := lnc) (g := .int .u16) (fun _ => rfl) hx []
  rw [List.append_nil, Nat.zero_add, Nat.mul_one] at this; exact this
theorem NtD.set {n : NtV} {i j : Nat} {d d' : DvV} {v : Value} (hd : n.dv[i]? = some d) (hj : j < 3) (hc : setL d.c j [v] = d'.c) : setL n.c (i * 3 + j) [v] = NtV.c ⟨n.dv.set i d', n.ln⟩ := by
  have := fl_part dvc_len (fl lnc n.ln) hd hj hc
  rw [Nat.zero_add] at this; exact this
theorem NtD.setL {n : NtV} (h : NtD n) {i : Nat} {x y : Int} (hx : n.ln[i]? = some x) : Go.Eng.setL n.c (48 + i) [.int .u16 y] = NtV.c ⟨n.dv, n.ln.set i y⟩ := by
  have hA : (fl DvV.c n.dv).length = 48 := by rw [fl_len dvc_len, h.dl]
  have := fl_part lnc_len [] hx (j := 0) (c' := y) (v := .int .u16 y) (by omega) rfl
  rw [List.append_nil, List.append_nil, Nat.zero_add, Nat.mul_one, Nat.add_zero] at this
  unfold NtV.c
  rw [← this]
  generalize fl DvV.c n.dv = A at hA
  generalize fl lnc n.ln = B
  unfold Go.Eng.setL
  rw [List.take_append, List.drop_append, hA, show 48 + i - 48 = i by omega, List.take_of_length_le (by omega), show 48 + i + [Value.int IntKind.u16 y].length - 48 = i + [Value.int IntKind.u16 y].length by simp; omega, List.drop_of_length_le (by rw [hA]; simp; omega)]
  simp
/-- a slice from a place on -/
def sfrom (p : Option Addr) (cap q size : Nat) : Option Addr := match p with
  | none => none
  | some x => if cap = q then some ⟨x.block, x.off, none⟩ else some ⟨x.block, x.off + q * size, none⟩
section sf
variable {P : Program} {n : Nat} {L : List (Nat × Value)} {a : Act} {w : World} {T : TypeId} {pos : String} {aft : Array Edge} {g : Option (Nat × Bool)} {dst : Option Nat} {x y : Operand}
theorem r_sliceS10g {t : TypeId} {size len cap : Nat} {p : Option Addr} {k : IntKind} {i : Int} (hl : Sl n L a) (hx : val L x = some (.slice p len cap)) (hy : val L y = some (.int k i)) (ht : slcOk P t size = true) (h : 0 ≤ i ∧ i ≤ len ∧ len ≤ cap) (hp : (p = none ∧ len = 0 ∧ cap = 0) ∨ ∃ b o, p = some ⟨b, o, none⟩) {q : Nat} (hq : i.toNat = q) :
    Gives P a ⟨dst, .slice t x (some y) none none, T, pos, aft, g⟩ w (.slice (sfrom p cap q size) (len - q) (cap - q)) w := by
  rcases hp with ⟨rfl, rfl, rfl⟩ | ⟨b, o, rfl⟩
  · have hi : i = 0 := by omega
    subst hi
    have hq0 : q = 0 := hq.symm
    subst hq0
    obtain ⟨e, inf, h2, h3, rfl⟩ := slcOk_spec ht
    simp [Gives, execOp, hl.ev hx, hl.ev hy, Instr.sliceAt, Instr.slice, run_underlying h2, Instr.sliceBounds, Instr.sliceBound, asIntOf, sizeOf, typeInfo, h3, sfrom]
  · exact r_sliceS10x hl hx hy ht h hq
end sf
theorem row_p {p : Option Addr} {n c s : Nat} {xs : List Value} {e : TypeId} {E : List (Nat × Obj)} (h : Row (.slice p n c) n xs s e E) : (p = none ∧ n = 0 ∧ c = 0) ∨ ∃ b o, p = some ⟨b, o, none⟩ := by
  rcases h with ⟨h1, h2, _, _⟩ | ⟨b, cap, junk, h1, _⟩
  · injection h1 with a1 a2 a3; exact .inl ⟨a1, h2, a3⟩
  · injection h1 with a1; exact .inr ⟨b, 0, a1⟩
theorem row_le {p : Option Addr} {n c s : Nat} {xs : List Value} {e : TypeId} {E : List (Nat × Obj)} (h : Row (.slice p n c) n xs s e E) : n ≤ c := by
  rcases h with ⟨h1, h2, _, _⟩ | ⟨b, cap, junk, h1, _, _, h4, _⟩
  · injection h1 with a1 a2 a3; omega
  · injection h1 with a1 a2 a3; omega
theorem row_sp {p : Option Addr} {n c s : Nat} {xs : List Value} {e : TypeId} {E : List (Nat × Obj)} (h : Row (.slice p n c) n xs s e E) : ∀ q, p = some q → q.spot = none := by
  intro q e
  rcases row_p h with ⟨h1, _⟩ | ⟨b, o, h1⟩
  · rw [h1] at e; cases e
  · rw [h1] at e; injection e with e; rw [← e]
theorem vw_from {α : Type} {f : α → List Value} {s : Nat} (hs : ∀ a, (f a).length = s) {p : Option Addr} {l : List α} {c q : Nat} {e : TypeId} {E : List (Nat × Obj)} (h : Row (.slice p l.length c) l.length (fl f l) s e E) (hq : q ≤ l.length) : VwZ s (.slice (sfrom p c q s) (l.length - q) (c - q)) (l.drop q).length (fl f (l.drop q)) E := by
  rw [List.length_drop]
  rcases h with ⟨h1, h2, h3, rfl⟩ | ⟨b, cap, junk, h1, h2, h3, h4, rfl⟩
  · injection h1 with a1 a2 a3
    subst a1
    have : l = [] := List.eq_nil_of_length_eq_zero h2
    subst this
    exact .inl ⟨by simp, by simp [fl], none, c - q, by simp [sfrom], fun _ e => by cases e⟩
  · injection h1 with a1 a2 a3
    subst a1; subst a3
    have := vw_drop (size := s) (b := b) (o := 0) (m := l.length) (c := c) (i := q) (l := fl f l ++ junk) (news := fl f l) (Z := [(b, C (fl f l ++ junk) e)]) (T := e) (List.mem_singleton.2 rfl) (by rw [List.drop_zero]; simp) h2 hq h4
    rw [fl_dropS hs l q hq] at this
    exact this
theorem row_take {α : Type} {f : α → List Value} {s : Nat} (hs : ∀ a, (f a).length = s) {p : Option Addr} {l : List α} {c q : Nat} {e : TypeId} {E : List (Nat × Obj)} (h : Row (.slice p l.length c) l.length (fl f l) s e E) (hq : q ≤ l.length) : Row (.slice p q c) q (fl f (l.take q)) s e E := by
  rcases h with ⟨h1, h2, h3, rfl⟩ | ⟨b, cap, junk, h1, h2, h3, h4, rfl⟩
  · injection h1 with a1 a2 a3
    have h0 : q = 0 := by omega
    have : l = [] := List.eq_nil_of_length_eq_zero h2
    subst this
    subst h0
    exact .inl ⟨by rw [a1, a3], rfl, rfl, rfl⟩
  · injection h1 with a1 a2 a3
    subst a1; subst a3
    refine .inr ⟨b, c, fl f (l.drop q) ++ junk, rfl, by rw [fl_len hs, List.length_take, Nat.min_eq_left hq], ?_, by omega, ?_⟩
    · rw [← List.append_assoc, ← fl_split]; exact h3
    · rw [← List.append_assoc, ← fl_split]
theorem setL_get {l : List Value} {o : Nat} {v : Value} (h : o < l.length) : (setL l o [v])[o]? = some v := by
  unfold setL
  rw [List.append_assoc, List.getElem?_append_right (by rw [List.length_take]; omega), List.length_take, Nat.min_eq_left (by omega), Nat.sub_self]; rfl
theorem setL_len1 {l : List Value} {o : Nat} {v : Value} (h : o < l.length) : (setL l o [v]).length = l.length := by
  unfold setL; simp; omega
theorem setL_set {l : List Value} {o : Nat} {v : Value} (h : o < l.length) : setL l o [v] = l.set o v := by
  unfold setL
  rw [List.set_eq_take_append_cons_drop, if_pos h]; simp
theorem setL_twice {l : List Value} {o : Nat} {u v : Value} (h : o < l.length) : setL (setL l o [u]) o [v] = setL l o [v] := by
  rw [setL_set (v := v) (l := setL l o [u]) (by rw [setL_len1 h]; exact h), setL_set h, setL_set h, List.set_set]
theorem NtD.whole {n : NtV} (h : NtD n) : (n.c.drop 0).take 64 = n.c := by
  rw [List.drop_zero, ← h.len, List.take_length]
theorem setL_all {l l' : List Value} (h : l.length = l'.length) : setL l 0 l' = l' := by
  unfold setL; rw [List.take_zero, Nat.zero_add, ← h, List.drop_length]; simp


set_option maxHeartbeats 1000000 in
theorem bef_spec (x l y m : Int) : Sp Tryz.prog 76 #[.agg ⟨[.int .u8 x, .int .u8 l]⟩, .agg ⟨[.int .u8 y, .int .u8 m]⟩] [] (fun v F' => v = .bool (befP x l y m) ∧ F' = []) := by
  refine f_enter (args := [.agg ⟨[.int .u8 x, .int .u8 l]⟩, .agg ⟨[.int .u8 y, .int .u8 m]⟩]) Tryz.func76 rfl Tryz.ntmps76 rfl ?_
  intro w0 w a hpre hl hh
  simp only [slotsFrom, Nat.reduceAdd] at hl
  refine c_seq ?_
  refine c_region ?_
  refine wl (w_box hl hh rfl trivial rfl rfl ?_)
  clear hl hh a w; intro k2 a w hl hh
  refine wl (w_box hl hh rfl trivial rfl rfl ?_)
  clear hl hh a w; intro k3 a w hl hh
  refine wl (wl_val hl rfl trivial (r_assign hl rfl) ?_)
  clear hl a; intro a hl
  refine w_nil ?_
  have hl2 := hl.add (t := 2) (hl.add (t := 3) (hl.nil) rfl) rfl; clear hl; have hl := hl2; clear hl2
  refine then_normal ?_
  refine c_seq ?_
  refine c_region ?_
  refine wl (wl_val hl rfl trivial (r_field hl rfl fld41_0) ?_)
  clear hl a; intro a hl
  refine wl (w_load hl hh rfl trivial one5 rfl (by repeat (first | exact find_head | apply find_tail)) (by first | rfl) ?_)
  clear hl a; intro a hl
  refine wl (wl_val hl rfl trivial (r_field hl rfl fld41_0) ?_)
  clear hl a; intro a hl
  refine wl (w_load hl hh rfl trivial one5 rfl (by repeat (first | exact find_head | apply find_tail)) (by first | rfl) ?_)
  clear hl a; intro a hl
  refine wl (wl_val hl rfl trivial (r_lss hl rfl rfl) ?_)
  clear hl a; intro a hl
  refine wl (wl_val hl rfl trivial (r_move hl rfl) ?_)
  clear hl a; intro a hl
  refine sl_split (t := 10) hl rfl ?_ ?_
  · intro hg1; clear hl; intro hl
    try simp only [decide_eq_true_eq, decide_eq_false_iff_not, Bool.not_eq_true', Bool.not_eq_false', Bool.not_eq_true, Bool.not_eq_false, Bool.and_eq_true, Bool.or_eq_true, Bool.and_eq_false_iff, Bool.or_eq_false_iff, Bool.not_not, ne_eq, Int.not_lt, Int.not_le, Decidable.not_not, beq_iff_eq, bne_iff_ne] at hg1
    refine wl (wl_skip hl rfl ⟨_, _, rfl, rfl, rfl⟩ ?_)
    clear hl a; intro a hl
    refine wl (wl_skip hl rfl ⟨_, _, rfl, rfl, rfl⟩ ?_)
    clear hl a; intro a hl
    refine wl (wl_skip hl rfl ⟨_, _, rfl, rfl, rfl⟩ ?_)
    clear hl a; intro a hl
    refine wl (wl_skip hl rfl ⟨_, _, rfl, rfl, rfl⟩ ?_)
    clear hl a; intro a hl
    refine wl (wl_skip hl rfl ⟨_, _, rfl, rfl, rfl⟩ ?_)
    clear hl a; intro a hl
    refine wl (wl_skip hl rfl ⟨_, _, rfl, rfl, rfl⟩ ?_)
    clear hl a; intro a hl
    refine wl (wl_skipU hl rfl ⟨_, _, rfl, rfl, rfl⟩ ?_)
    clear hl a; intro a hl
    refine wl (wl_skipU hl rfl ⟨_, _, rfl, rfl, rfl⟩ ?_)
    clear hl a; intro a hl
    refine wl (wl_skipU hl rfl ⟨_, _, rfl, rfl, rfl⟩ ?_)
    clear hl a; intro a hl
    refine wl (wl_skipU hl rfl ⟨_, _, rfl, rfl, rfl⟩ ?_)
    clear hl a; intro a hl
    refine wl (wl_skipU hl rfl ⟨_, _, rfl, rfl, rfl⟩ ?_)
    clear hl a; intro a hl
    refine wl (wl_skip hl rfl ⟨_, _, rfl, rfl, rfl⟩ ?_)
    clear hl a; intro a hl
    refine wl (wl_val hl rfl trivial (r_pickT hl rfl rfl) ?_)
    clear hl a; intro a hl
    refine wl (wl_val hl rfl trivial (r_assign hl rfl) ?_)
    clear hl a; intro a hl
    refine w_nil ?_
    have hl2 := hl.add (t := 4) (hl.nil) rfl; clear hl; have hl := hl2; clear hl2
    refine then_normal ?_
    refine wp_ret ?_
    refine f_ret1 (F' := []) hl hh rfl rfl (by repeat (first | exact keeps_nil | apply keeps_cons (by repeat (first | exact find_head | apply find_tail)) (by first  | rfl) | exact keeps_self | apply keeps_mv)) ?_
    exact ⟨congrArg Value.bool (by unfold befP; first | (rw [decide_eq_true (show x < y by omega)]; rfl) | (rw [decide_eq_false (show ¬ x < y by omega), Bool.false_or, decide_eq_true (show x = y by omega), Bool.true_and]; done) | (rw [decide_eq_false (show ¬ x < y by omega), Bool.false_or, decide_eq_false (show ¬ x = y by omega)]; rfl)), rfl⟩
  · intro hg1; clear hl; intro hl
    try simp only [decide_eq_true_eq, decide_eq_false_iff_not, Bool.not_eq_true', Bool.not_eq_false', Bool.not_eq_true, Bool.not_eq_false, Bool.and_eq_true, Bool.or_eq_true, Bool.and_eq_false_iff, Bool.or_eq_false_iff, Bool.not_not, ne_eq, Int.not_lt, Int.not_le, Decidable.not_not, beq_iff_eq, bne_iff_ne] at hg1
    refine wl (wl_val hl rfl ⟨_, _, rfl, rfl, rfl⟩ (r_field hl rfl fld41_0) ?_)
    clear hl a; intro a hl
    refine wl (w_load hl hh rfl ⟨_, _, rfl, rfl, rfl⟩ one5 rfl (by repeat (first | exact find_head | apply find_tail)) (by first | rfl) ?_)
    clear hl a; intro a hl
    refine wl (wl_val hl rfl ⟨_, _, rfl, rfl, rfl⟩ (r_field hl rfl fld41_0) ?_)
    clear hl a; intro a hl
    refine wl (w_load hl hh rfl ⟨_, _, rfl, rfl, rfl⟩ one5 rfl (by repeat (first | exact find_head | apply find_tail)) (by first | rfl) ?_)
    clear hl a; intro a hl
    refine wl (wl_val hl rfl ⟨_, _, rfl, rfl, rfl⟩ (r_eql hl rfl rfl) ?_)
    clear hl a; intro a hl
    refine wl (wl_val hl rfl ⟨_, _, rfl, rfl, rfl⟩ (r_move hl rfl) ?_)
    clear hl a; intro a hl
    refine sl_split (t := 16) hl rfl ?_ ?_
    · intro hg2; clear hl; intro hl
      try simp only [decide_eq_true_eq, decide_eq_false_iff_not, Bool.not_eq_true', Bool.not_eq_false', Bool.not_eq_true, Bool.not_eq_false, Bool.and_eq_true, Bool.or_eq_true, Bool.and_eq_false_iff, Bool.or_eq_false_iff, Bool.not_not, ne_eq, Int.not_lt, Int.not_le, Decidable.not_not, beq_iff_eq, bne_iff_ne] at hg2
      refine wl (wl_val hl rfl ⟨_, _, rfl, rfl, rfl⟩ (r_field hl rfl fld41_1) ?_)
      clear hl a; intro a hl
      refine wl (w_load hl hh rfl ⟨_, _, rfl, rfl, rfl⟩ one5 rfl (by repeat (first | exact find_head | apply find_tail)) (by first | rfl) ?_)
      clear hl a; intro a hl
      refine wl (wl_val hl rfl ⟨_, _, rfl, rfl, rfl⟩ (r_field hl rfl fld41_1) ?_)
      clear hl a; intro a hl
      refine wl (w_load hl hh rfl ⟨_, _, rfl, rfl, rfl⟩ one5 rfl (by repeat (first | exact find_head | apply find_tail)) (by first | rfl) ?_)
      clear hl a; intro a hl
      refine wl (wl_val hl rfl ⟨_, _, rfl, rfl, rfl⟩ (r_lss hl rfl rfl) ?_)
      clear hl a; intro a hl
      refine wl (wl_val hl rfl ⟨_, _, rfl, rfl, rfl⟩ (r_pickT hl rfl rfl) ?_)
      clear hl a; intro a hl
      refine wl (wl_val hl rfl trivial (r_pickF hl rfl rfl) ?_)
      clear hl a; intro a hl
      refine wl (wl_val hl rfl trivial (r_assign hl rfl) ?_)
      clear hl a; intro a hl
      refine w_nil ?_
      have hl2 := hl.add (t := 4) (hl.nil) rfl; clear hl; have hl := hl2; clear hl2
      refine then_normal ?_
      refine wp_ret ?_
      refine f_ret1 (F' := []) hl hh rfl rfl (by repeat (first | exact keeps_nil | apply keeps_cons (by repeat (first | exact find_head | apply find_tail)) (by first  | rfl) | exact keeps_self | apply keeps_mv)) ?_
      exact ⟨congrArg Value.bool (by unfold befP; first | (rw [decide_eq_true (show x < y by omega)]; rfl) | (rw [decide_eq_false (show ¬ x < y by omega), Bool.false_or, decide_eq_true (show x = y by omega), Bool.true_and]; done) | (rw [decide_eq_false (show ¬ x < y by omega), Bool.false_or, decide_eq_false (show ¬ x = y by omega)]; rfl)), rfl⟩
    · intro hg2; clear hl; intro hl
      try simp only [decide_eq_true_eq, decide_eq_false_iff_not, Bool.not_eq_true', Bool.not_eq_false', Bool.not_eq_true, Bool.not_eq_false, Bool.and_eq_true, Bool.or_eq_true, Bool.and_eq_false_iff, Bool.or_eq_false_iff, Bool.not_not, ne_eq, Int.not_lt, Int.not_le, Decidable.not_not, beq_iff_eq, bne_iff_ne] at hg2
      refine wl (wl_skip hl rfl ⟨_, _, rfl, rfl, rfl⟩ ?_)
      clear hl a; intro a hl
      refine wl (wl_skip hl rfl ⟨_, _, rfl, rfl, rfl⟩ ?_)
      clear hl a; intro a hl
      refine wl (wl_skip hl rfl ⟨_, _, rfl, rfl, rfl⟩ ?_)
      clear hl a; intro a hl
      refine wl (wl_skip hl rfl ⟨_, _, rfl, rfl, rfl⟩ ?_)
      clear hl a; intro a hl
      refine wl (wl_skip hl rfl ⟨_, _, rfl, rfl, rfl⟩ ?_)
      clear hl a; intro a hl
      refine wl (wl_val hl rfl ⟨_, _, rfl, rfl, rfl⟩ (r_pickF hl rfl rfl) ?_)
      clear hl a; intro a hl
      refine wl (wl_val hl rfl trivial (r_pickF hl rfl rfl) ?_)
      clear hl a; intro a hl
      refine wl (wl_val hl rfl trivial (r_assign hl rfl) ?_)
      clear hl a; intro a hl
      refine w_nil ?_
      have hl2 := hl.add (t := 4) (hl.nil) rfl; clear hl; have hl := hl2; clear hl2
      refine then_normal ?_
      refine wp_ret ?_
      refine f_ret1 (F' := []) hl hh rfl rfl (by repeat (first | exact keeps_nil | apply keeps_cons (by repeat (first | exact find_head | apply find_tail)) (by first  | rfl) | exact keeps_self | apply keeps_mv)) ?_
      exact ⟨congrArg Value.bool (by unfold befP; first | (rw [decide_eq_true (show x < y by omega)]; rfl) | (rw [decide_eq_false (show ¬ x < y by omega), Bool.false_or, decide_eq_true (show x = y by omega), Bool.true_and]; done) | (rw [decide_eq_false (show ¬ x < y by omega), Bool.false_or, decide_eq_false (show ¬ x = y by omega)]; rfl)), rfl⟩

set_option maxHeartbeats 2000000 in
theorem setb_spec (b o : Nat) (l : List Value) (T9 : TypeId) (x k : Int) (up : Bool) (hx : l[o]? = some (.int .u16 x)) (hk : 0 ≤ k ∧ k ≤ 255) : Sp Tryz.prog 77 #[.pointer (some ⟨b, o, none⟩), .int .u8 k, .bool up] [(b, C l T9)] (fun v F' => v = .tuple #[] ∧ F' = [(b, C (setL l o [.int .u16 (setB x k up)]) T9)]) := by
  refine f_enter (args := [.pointer (some ⟨b, o, none⟩), .int .u8 k, .bool up]) Tryz.func77 rfl Tryz.ntmps77 rfl ?_
  intro w0 w a hpre hl hh
  have ho : o < l.length := (List.getElem?_eq_some_iff.1 hx).1
  have hx2 : (setL l o [.int .u16 (bitsOf .andNot .u16 x (sh1 k))])[o]? = some (.int .u16 (bitsOf .andNot .u16 x (sh1 k))) := setL_get ho
  have hl2 : (setL l o [.int .u16 (bitsOf .andNot .u16 x (sh1 k))]).length = l.length := setL_len1 ho
  simp only [sh1] at hx2 hl2
  simp only [slotsFrom, Nat.reduceAdd] at hl
  refine c_seq ?_
  refine c_region ?_
  refine wl (wl_val hl rfl trivial (r_move hl rfl) ?_)
  clear hl a; intro a hl
  refine wl (wl_val hl rfl trivial (r_nilCheck hl rfl) ?_)
  clear hl a; intro a hl
  refine wl (w_load hl hh rfl trivial one60 rfl (by repeat (first | exact find_head | apply find_tail)) (by first | exact hx | exact hx2 | rfl) ?_)
  clear hl a; intro a hl
  refine wl (wl_val hl rfl trivial (r_move hl rfl) ?_)
  clear hl a; intro a hl
  refine wl (wl_val hl rfl trivial (r_shl hl rfl rfl (by omega)) ?_)
  clear hl a; intro a hl
  refine wl (wl_val hl rfl trivial (r_andNot hl rfl rfl) ?_)
  clear hl a; intro a hl
  refine wl (wl_val hl rfl trivial (r_nilCheck hl rfl) ?_)
  clear hl a; intro a hl
  refine wl (w_store hl hh trivial one60 rfl rfl (by repeat (first | exact find_head | apply find_tail)) (by first | (simp; done) | (simp; omega) | omega | (rw [hl2]; omega)) (by first | rfl | assumption | (apply Row.one; assumption)) (by first | rfl | exact setL_twice ho | (simp only [setL, List.getElem?_cons_zero, List.getElem?_cons_succ, Value.cells, List.take_zero, List.take_succ_cons, List.take_nil, List.drop_zero, List.drop_succ_cons, List.drop_nil, List.length_cons, List.length_nil, List.cons_append, List.nil_append, List.append_nil, Nat.zero_add, Nat.add_zero, Nat.reduceAdd, Nat.reduceBEq, Nat.reduceEqDiff, Nat.ble, BEq.rfl, Bool.and_true, Bool.and_self, cond_true, beq_self_eq_true]; rfl)) ?_)
  clear hh w; intro w hh
  refine w_nil ?_
  have hl2 := hl.add (t := 0) (hl.add (t := 1) (hl.add (t := 2) (hl.nil) rfl) rfl) rfl; clear hl; have hl := hl2; clear hl2
  refine then_normal ?_
  refine c_seq ?_
  refine c_region ?_
  refine wl (wl_val hl rfl trivial (r_move hl rfl) ?_)
  clear hl a; intro a hl
  refine w_nil ?_
  have hl2 := hl.add (t := 0) (hl.add (t := 1) (hl.add (t := 13) (hl.nil) rfl) rfl) rfl; clear hl; have hl := hl2; clear hl2
  refine then_normal ?_
  refine c_cond hl rfl ?_ ?_
  · intro hc0
    try simp only [decide_eq_true_eq, decide_eq_false_iff_not, Bool.not_eq_true', Bool.not_eq_false', Bool.not_eq_true, Bool.not_eq_false, Bool.and_eq_true, Bool.or_eq_true, Bool.and_eq_false_iff, Bool.or_eq_false_iff, Bool.not_not, ne_eq, Int.not_lt, Int.not_le, Decidable.not_not, beq_iff_eq, bne_iff_ne] at hc0
    refine c_region ?_
    refine wl (wl_val hl rfl trivial (r_move hl rfl) ?_)
    clear hl a; intro a hl
    refine wl (wl_val hl rfl trivial (r_nilCheck hl rfl) ?_)
    clear hl a; intro a hl
    refine wl (w_load hl hh rfl trivial one60 rfl (by repeat (first | exact find_head | apply find_tail)) (by first | exact hx | exact hx2 | rfl) ?_)
    clear hl a; intro a hl
    refine wl (wl_val hl rfl trivial (r_move hl rfl) ?_)
    clear hl a; intro a hl
    refine wl (wl_val hl rfl trivial (r_shl hl rfl rfl (by omega)) ?_)
    clear hl a; intro a hl
    refine wl (wl_val hl rfl trivial (r_or hl rfl rfl) ?_)
    clear hl a; intro a hl
    refine wl (wl_val hl rfl trivial (r_nilCheck hl rfl) ?_)
    clear hl a; intro a hl
    refine wl (w_store hl hh trivial one60 rfl rfl (by repeat (first | exact find_head | apply find_tail)) (by first | (simp; done) | (simp; omega) | omega | (rw [hl2]; omega)) (by first | rfl | assumption | (apply Row.one; assumption)) (by first | rfl | exact setL_twice ho | (simp only [setL, List.getElem?_cons_zero, List.getElem?_cons_succ, Value.cells, List.take_zero, List.take_succ_cons, List.take_nil, List.drop_zero, List.drop_succ_cons, List.drop_nil, List.length_cons, List.length_nil, List.cons_append, List.nil_append, List.append_nil, Nat.zero_add, Nat.add_zero, Nat.reduceAdd, Nat.reduceBEq, Nat.reduceEqDiff, Nat.ble, BEq.rfl, Bool.and_true, Bool.and_self, cond_true, beq_self_eq_true]; rfl)) ?_)
    clear hh w; intro w hh
    refine w_nil ?_
    have hl2 := hl.nil; clear hl; have hl := hl2; clear hl2
    refine f_end0 (F' := [(b, C (setL l o [.int .u16 (setB x k up)]) T9)]) hl hh rfl (by repeat (first | exact keeps_nil | apply keeps_cons (by repeat (first | exact find_head | apply find_tail)) (by first  | (rw [hc0]; rfl) | (rw [hc0, setL_twice ho]; rfl) | rfl) | exact keeps_self | apply keeps_mv)) ?_
    exact ⟨rfl, rfl⟩
  · intro hc0
    try simp only [decide_eq_true_eq, decide_eq_false_iff_not, Bool.not_eq_true', Bool.not_eq_false', Bool.not_eq_true, Bool.not_eq_false, Bool.and_eq_true, Bool.or_eq_true, Bool.and_eq_false_iff, Bool.or_eq_false_iff, Bool.not_not, ne_eq, Int.not_lt, Int.not_le, Decidable.not_not, beq_iff_eq, bne_iff_ne] at hc0
    refine wp_skip ?_
    refine f_end0 (F' := [(b, C (setL l o [.int .u16 (setB x k up)]) T9)]) hl hh rfl (by repeat (first | exact keeps_nil | apply keeps_cons (by repeat (first | exact find_head | apply find_tail)) (by first  | (rw [hc0]; rfl) | (rw [hc0, setL_twice ho]; rfl) | rfl) | exact keeps_self | apply keeps_mv)) ?_
    exact ⟨rfl, rfl⟩
end Go.Proofs.Qxb6500908aGreat

import Derived.Test.Qxb6500914aFmtQ2
import Derived.Test.Qxb6500914aFmtExt
namespace Go.Proofs.Qxb6500914aFmt
open Go.Eng
set_option linter.unusedVariables false
set_option linter.unusedSimpArgs false
theorem eqf81 : eqOk Tryf.prog 4 81 = true := by kernel_rfl
theorem shp81 : shapeT Tryf.prog 4 81 = some [.int .u64, .int .u64] := by kernel_rfl
theorem fld62_2 : fieldOk Tryf.prog 62 2 2 = true := by kernel_rfl
theorem zero79 : zeroOk Tryf.prog 79 (.map none) := by unfold zeroOk; kernel_rfl
theorem zero81 : zeroOk Tryf.prog 81 (.agg #[(.int .u64 0), (.int .u64 0)]) := by unfold zeroOk; kernel_rfl
theorem bld81 : buildOk Tryf.prog 81 [(0, 1), (1, 1)] = true := by kernel_rfl
theorem zero3 : zeroOk Tryf.prog 3 (.int .i64 0) := by unfold zeroOk; kernel_rfl
theorem fld34_2 : fieldOk Tryf.prog 34 2 2 = true := by kernel_rfl
theorem fld34_1 : fieldOk Tryf.prog 34 1 1 = true := by kernel_rfl
/-! ## the elements as keys; counting maps -/
abbrev EK := BitVec 64 × BitVec 64
def k81 (a : EK) : Value := .agg ⟨[.int .u64 ((a.1.toNat : Nat) : Int), .int .u64 ((a.2.toNat : Nat) : Int)]⟩
theorem key81 : KeyOk Tryf.prog 81 k81 := by
  refine KeyOk.wide (fun a : EK => [.int .u64 ((a.1.toNat : Nat) : Int), .int .u64 ((a.2.toNat : Nat) : Int)]) (fun a : EK => [.int .u64 ((a.1.toNat : Nat) : Int), .int .u64 ((a.2.toNat : Nat) : Int)]) eqf81 shp81 (fun a => rfl) (fun a => rfl) (fun a => ?_) (fun a b h => ?_) (fun a => ?_) (fun a => ?_)
  · have h1 := a.1.isLt; have h2 := a.2.isLt
    refine ⟨?_⟩
    simp [LitsOk, litOk, Fits]
    omega
  · obtain ⟨a1, a2⟩ := a
    obtain ⟨b1, b2⟩ := b
    simp only [List.cons.injEq, Lit.int.injEq, true_and, and_true] at h
    obtain ⟨h1, h2⟩ := h
    have e1 : a1 = b1 := BitVec.eq_of_toNat_eq (by omega)
    have e2 : a2 = b2 := BitVec.eq_of_toNat_eq (by omega)
    subst e1; subst e2; rfl
  · simp [Value.formed, Tryf.underlying81, Program.cellsOf]
    all_goals kernel_rfl
  · simp [k81, Instr.sameBits]
def ek (p v : Int) : EK := (BitVec.ofNat 64 p.toNat, BitVec.ofNat 64 v.toNat)
theorem ek_eq {p v : Int} (hp : InR p) (hv : InR v) : Value.agg ⟨[.int .u64 p, .int .u64 v]⟩ = k81 (ek p v) := by
  unfold InR at hp hv
  unfold k81 ek
  simp only [BitVec.toNat_ofNat]
  rw [show ((p.toNat % 2 ^ 64 : Nat) : Int) = p by omega, show ((v.toNat % 2 ^ 64 : Nat) : Int) = v by omega]
def ekI (a : EK) : Int × Int := ((a.1.toNat : Int), (a.2.toNat : Int))
theorem ek_iff {p v : Int} (hp : InR p) (hv : InR v) (a : EK) : ek p v = a ↔ (p, v) = ekI a := by
  unfold InR at hp hv
  unfold ek ekI
  constructor
  · rintro rfl
    simp only [BitVec.toNat_ofNat, Prod.mk.injEq]
    omega
  · intro h
    simp only [Prod.mk.injEq] at h
    obtain ⟨a1, a2⟩ := a
    simp only at h
    refine Prod.ext (BitVec.eq_of_toNat_eq ?_) (BitVec.eq_of_toNat_eq ?_)
    · simp only [BitVec.toNat_ofNat]; have := a1.isLt; omega
    · simp only [BitVec.toNat_ofNat]; have := a2.isLt; omega
/-- the map M counts f -/
structure TM (M : List (EK × Value)) (f : EK → Nat) : Prop where
  get : ∀ a, mget M a = if f a = 0 then none else some (.int .i64 ((f a : Nat) : Int))
  nd : (M.map Prod.fst).Nodup
theorem TM.nil : TM [] (fun _ => 0) := ⟨fun a => rfl, List.nodup_nil⟩
theorem TM.val {M : List (EK × Value)} {f : EK → Nat} (h : TM M f) (a : EK) : (mget M a).getD (.int .i64 0) = .int .i64 ((f a : Nat) : Int) := by
  rw [h.get]
  split
  · rename_i e; rw [e]; rfl
  · rfl
theorem TM.val2 {M : List (EK × Value)} {f : EK → Nat} (h : TM M f) (a : EK) : (mget (mput M a ((mget M a).getD (.int .i64 0))) a).getD (.int .i64 0) = .int .i64 ((f a : Nat) : Int) := by
  rw [mget_mput, if_pos rfl]; exact h.val a
theorem mput_keys (a : EK) (v : Value) : ∀ M : List (EK × Value), (mput M a v).map Prod.fst = if a ∈ M.map Prod.fst then M.map Prod.fst else M.map Prod.fst ++ [a]
  | [] => rfl
  | (b, u) :: M => by
    have ih := mput_keys a v M
    unfold mput
    by_cases e : a = b
    · subst e; simp
    · rw [if_neg (show ¬ a = (b, u).1 from e), List.map_cons, List.map_cons, ih]
      by_cases hm : a ∈ M.map Prod.fst
      · rw [if_pos hm, if_pos (List.mem_cons_of_mem _ hm)]
      · rw [if_neg hm, if_neg (by rw [List.mem_cons]; exact fun q => q.elim e hm)]; rfl
theorem TM.put {M : List (EK × Value)} {f : EK → Nat} (h : TM M f) (a : EK) : TM (mput M a (.int .i64 (((f a : Nat) : Int) + 1))) (fun b => f b + if b = a then 1 else 0) := by
  refine ⟨fun b => ?_, ?_⟩
  · rw [mget_mput]
    by_cases e : b = a
    · subst e
      rw [if_pos rfl, if_pos rfl, if_neg (by omega)]
      simp
    · rw [if_neg e, if_neg e, h.get]; rfl
  · rw [mput_keys]
    split
    · exact h.nd
    · rename_i hn
      rw [List.nodup_append]
      exact ⟨h.nd, by simp, fun x hx y hy => by rw [List.mem_singleton] at hy; subst hy; exact fun q => hn (q ▸ hx)⟩
theorem TM.congr {M : List (EK × Value)} {f g : EK → Nat} (h : TM M f) (e : ∀ a, g a = f a) : TM M g := ⟨fun a => by rw [e]; exact h.get a, h.nd⟩
theorem mem_mget (a : EK) : ∀ M : List (EK × Value), a ∈ M.map Prod.fst ↔ mget M a ≠ none
  | [] => by simp [mget]
  | (b, u) :: M => by
    have ih := mem_mget a M
    unfold mget
    by_cases e : a = b
    · subst e; simp
    · simp only [List.map_cons, List.mem_cons, e, false_or, if_neg e]; exact ih
theorem TM.len {M N : List (EK × Value)} {f : EK → Nat} (h : TM M f) (h' : TM N f) : M.length = N.length := by
  have hp : (M.map Prod.fst).Perm (N.map Prod.fst) := (List.perm_ext_iff_of_nodup h.nd h'.nd).2 fun a => by rw [mem_mget, mem_mget, h.get, h'.get]
  have := hp.length_eq
  rwa [List.length_map, List.length_map] at this
theorem TM.at {M : List (EK × Value)} {f : EK → Nat} (h : TM M f) {j : Nat} {p : EK × Value} (hj : M[j]? = some p) : p.2 = .int .i64 ((f p.1 : Nat) : Int) := by
  have key : ∀ (M : List (EK × Value)), (M.map Prod.fst).Nodup → ∀ (j : Nat) (p : EK × Value), M[j]? = some p → mget M p.1 = some p.2 := by
    intro M
    induction M with
    | nil => intro _ j p hj; cases hj
    | cons y M ih =>
      intro hn j p hj
      rw [List.map_cons, List.nodup_cons] at hn
      unfold mget
      cases j with
      | zero => injection hj with hj; subst hj; simp
      | succ j =>
        have hj' : M[j]? = some p := hj
        have hm : p.1 ∈ M.map Prod.fst := List.mem_map.2 ⟨p, List.mem_of_getElem? hj', rfl⟩
        have hne : p.1 ≠ y.1 := fun q => hn.1 (q ▸ hm)
        simp only [if_neg hne]
        exact ih hn.2 j p hj'
  have h1 := key M h.nd j p hj
  rw [h.get] at h1
  split at h1
  · cases h1
  · injection h1 with h1; exact h1.symm
/-- what the log says has gone in (out), counted -/
def inC (b : Bool) (l : List Ev) (a : EK) : Nat := l.countP (fun e => decide (e.ret = true ∧ e.ck ≠ 6 ∧ e.ra = 0 ∧ boxOf e.ck = b ∧ ek e.cp e.cv = a))
def ouC (b : Bool) (l : List Ev) (a : EK) : Nat := l.countP (fun e => decide (e.ret = true ∧ e.ck ≠ 6 ∧ e.ra = 1 ∧ boxOf e.ck = b ∧ ek e.rp e.rv = a))
theorem count_log {W : WS} (k : Bool) (a : EK) : ∀ l : List Ev, (∀ e ∈ l, (InR e.cv ∧ InR e.cp) ∧ InR e.rv ∧ InR e.rp) → lgD k (ekI a) l = (inC k l a : Int) - (ouC k l a : Int)
  | [], _ => by simp [lgD, inC, ouC]
  | e :: l, h => by
    have ih := count_log (W := W) k a l (fun x hx => h x (List.mem_cons_of_mem _ hx))
    obtain ⟨⟨h1, h2⟩, h3, h4⟩ := h e List.mem_cons_self
    have e1 := ek_iff h2 h1 a
    have e2 := ek_iff h4 h3 a
    unfold inC ouC at ih ⊢
    rw [List.countP_cons, List.countP_cons]
    show evD k (ekI a) e + lgD k (ekI a) l = _
    rw [ih]
    unfold evD dl
    by_cases c1 : e.ret = true ∧ boxOf e.ck = k
    · rw [if_pos c1]
      by_cases c6 : e.ck = 6
      · rw [if_pos c6, if_neg (by simp [c6]), if_neg (by simp [c6])]; omega
      · rw [if_neg c6]
        simp only
        by_cases ca : e.ra = 0
        · rw [if_pos ca, if_neg (show ¬ (decide (e.ret = true ∧ e.ck ≠ 6 ∧ e.ra = 1 ∧ boxOf e.ck = k ∧ ek e.rp e.rv = a) = true) by simp [ca])]
          by_cases ce : (e.cp, e.cv) = ekI a
          · rw [if_pos ce, if_pos (by simpa using ⟨c1.1, c6, ca, c1.2, e1.2 ce⟩)]; omega
          · rw [if_neg ce, if_neg (by simp only [decide_eq_true_eq]; exact fun z => ce (e1.1 z.2.2.2.2))]; omega
        · rw [if_neg ca, if_neg (show ¬ (decide (e.ret = true ∧ e.ck ≠ 6 ∧ e.ra = 0 ∧ boxOf e.ck = k ∧ ek e.cp e.cv = a) = true) by simp [ca])]
          by_cases cb : e.ra = 1
          · rw [if_pos cb]
            by_cases ce : (e.rp, e.rv) = ekI a
            · rw [if_pos ce, if_pos (by simpa using ⟨c1.1, c6, cb, c1.2, e2.2 ce⟩)]; omega
            · rw [if_neg ce, if_neg (by simp only [decide_eq_true_eq]; exact fun z => ce (e2.1 z.2.2.2.2))]; omega
          · rw [if_neg cb, if_neg (by simp [cb])]; omega
    · rw [if_neg c1, if_neg (by simp only [decide_eq_true_eq]; exact fun z => c1 ⟨z.1, z.2.2.2.1⟩), if_neg (by simp only [decide_eq_true_eq]; exact fun z => c1 ⟨z.1, z.2.2.2.1⟩)]; omega
theorem count_end {W : WS} (hg : Good7 W) (hL : LW W ≤ 1000100) (hi : ∀ s, W.run s = none) (k : Bool) (hc : cLi W.m.word k = []) (a : EK) : inC k W.log a = ouC k W.log a := by
  obtain ⟨_, h2, h3⟩ := hg.2 hL
  have h := h2 k (ekI a)
  rw [hc, count_log (W := W) k a W.log h3.log] at h
  have hz : sm6 (pdW k (ekI a) W) = 0 := by
    unfold sm6 pdW
    rw [hi, hi, hi, hi, hi, hi]; rfl
  rw [hz] at h
  simp only [List.count_nil] at h
  omega
/-! ## tally -/
@[reducible] def useP {p : Prop} (_ : p) {α : Type} (x : α) : α := x
structure TS where
  i : Nat
  I0 : List (EK × Value)
  I1 : List (EK × Value)
  O0 : List (EK × Value)
  O1 : List (EK × Value)
structure TF (log : List Ev) (s : TS) : Prop where
  i : s.i ≤ log.length
  I0 : TM s.I0 (inC false (log.take s.i))
  I1 : TM s.I1 (inC true (log.take s.i))
  O0 : TM s.O0 (ouC false (log.take s.i))
  O1 : TM s.O1 (ouC true (log.take s.i))
theorem TF.start (log : List Ev) : TF log ⟨0, [], [], [], []⟩ := ⟨Nat.zero_le _, TM.nil, TM.nil, TM.nil, TM.nil⟩
theorem take_one {log : List Ev} {i : Nat} {e : Ev} (h : log[i]? = some e) : log.take (i + 1) = log.take i ++ [e] := by rw [List.take_add_one, h]; rfl
theorem inC_snoc (b : Bool) (l : List Ev) (e : Ev) (a : EK) : inC b (l ++ [e]) a = inC b l a + if e.ret = true ∧ e.ck ≠ 6 ∧ e.ra = 0 ∧ boxOf e.ck = b ∧ ek e.cp e.cv = a then 1 else 0 := by
  unfold inC
  rw [List.countP_append, List.countP_cons, List.countP_nil]
  split
  · rename_i h; rw [if_pos (by simpa using h)]
  · rename_i h; rw [if_neg (by simpa using h)]
theorem ouC_snoc (b : Bool) (l : List Ev) (e : Ev) (a : EK) : ouC b (l ++ [e]) a = ouC b l a + if e.ret = true ∧ e.ck ≠ 6 ∧ e.ra = 1 ∧ boxOf e.ck = b ∧ ek e.rp e.rv = a then 1 else 0 := by
  unfold ouC
  rw [List.countP_append, List.countP_cons, List.countP_nil]
  split
  · rename_i h; rw [if_pos (by simpa using h)]
  · rename_i h; rw [if_neg (by simpa using h)]
theorem TM.inSkip {M : List (EK × Value)} {b : Bool} {log : List Ev} {i : Nat} {e : Ev} (h : TM M (inC b (log.take i))) (he : log[i]? = some e) (hn : ¬ (e.ret = true ∧ e.ck ≠ 6 ∧ e.ra = 0 ∧ boxOf e.ck = b)) : TM M (inC b (log.take (i + 1))) :=
  h.congr fun a => by rw [take_one he, inC_snoc, if_neg (fun z => hn ⟨z.1, z.2.1, z.2.2.1, z.2.2.2.1⟩)]; rfl
theorem TM.ouSkip {M : List (EK × Value)} {b : Bool} {log : List Ev} {i : Nat} {e : Ev} (h : TM M (ouC b (log.take i))) (he : log[i]? = some e) (hn : ¬ (e.ret = true ∧ e.ck ≠ 6 ∧ e.ra = 1 ∧ boxOf e.ck = b)) : TM M (ouC b (log.take (i + 1))) :=
  h.congr fun a => by rw [take_one he, ouC_snoc, if_neg (fun z => hn ⟨z.1, z.2.1, z.2.2.1, z.2.2.2.1⟩)]; rfl
theorem TM.inPut {M : List (EK × Value)} {b : Bool} {log : List Ev} {i : Nat} {e : Ev} (h : TM M (inC b (log.take i))) (he : log[i]? = some e) (hn : e.ret = true ∧ e.ck ≠ 6 ∧ e.ra = 0 ∧ boxOf e.ck = b) : TM (mput M (ek e.cp e.cv) (.int .i64 (((inC b (log.take i) (ek e.cp e.cv) : Nat) : Int) + 1))) (inC b (log.take (i + 1))) :=
  (h.put _).congr fun a => by
    rw [take_one he, inC_snoc]
    by_cases q : a = ek e.cp e.cv
    · rw [if_pos q, if_pos ⟨hn.1, hn.2.1, hn.2.2.1, hn.2.2.2, q.symm⟩]
    · rw [if_neg q, if_neg (fun z => q z.2.2.2.2.symm)]
theorem TM.ouPut {M : List (EK × Value)} {b : Bool} {log : List Ev} {i : Nat} {e : Ev} (h : TM M (ouC b (log.take i))) (he : log[i]? = some e) (hn : e.ret = true ∧ e.ck ≠ 6 ∧ e.ra = 1 ∧ boxOf e.ck = b) : TM (mput M (ek e.rp e.rv) (.int .i64 (((ouC b (log.take i) (ek e.rp e.rv) : Nat) : Int) + 1))) (ouC b (log.take (i + 1))) :=
  (h.put _).congr fun a => by
    rw [take_one he, ouC_snoc]
    by_cases q : a = ek e.rp e.rv
    · rw [if_pos q, if_pos ⟨hn.1, hn.2.1, hn.2.2.1, hn.2.2.2, q.symm⟩]
    · rw [if_neg q, if_neg (fun z => q z.2.2.2.2.symm)]
theorem inC_le (b : Bool) (l : List Ev) (a : EK) : inC b l a ≤ l.length := List.countP_le_length
theorem ouC_le (b : Bool) (l : List Ev) (a : EK) : ouC b l a ≤ l.length := List.countP_le_length
theorem TF.skip {log : List Ev} {s : TS} (h : TF log s) {e : Ev} (he : log[s.i]? = some e) (hn : ¬ (e.ret = true ∧ e.ck ≠ 6 ∧ (e.ra = 0 ∨ e.ra = 1))) : TF log ⟨s.i + 1, s.I0, s.I1, s.O0, s.O1⟩ :=
  ⟨(List.getElem?_eq_some_iff.1 he).1, h.I0.inSkip he fun z => hn ⟨z.1, z.2.1, .inl z.2.2.1⟩, h.I1.inSkip he fun z => hn ⟨z.1, z.2.1, .inl z.2.2.1⟩, h.O0.ouSkip he fun z => hn ⟨z.1, z.2.1, .inr z.2.2.1⟩, h.O1.ouSkip he fun z => hn ⟨z.1, z.2.1, .inr z.2.2.1⟩⟩
theorem TF.in0 {log : List Ev} {s : TS} (h : TF log s) {e : Ev} (he : log[s.i]? = some e) (hn : e.ret = true ∧ e.ck ≠ 6 ∧ e.ra = 0) (hb : boxOf e.ck = false) : TF log ⟨s.i + 1, mput s.I0 (ek e.cp e.cv) (.int .i64 (((inC false (log.take s.i) (ek e.cp e.cv) : Nat) : Int) + 1)), s.I1, s.O0, s.O1⟩ :=
  ⟨(List.getElem?_eq_some_iff.1 he).1, h.I0.inPut he ⟨hn.1, hn.2.1, hn.2.2, hb⟩, h.I1.inSkip he fun z => by rw [hb] at z; exact absurd z.2.2.2 (by decide), h.O0.ouSkip he fun z => by rw [hn.2.2] at z; exact absurd z.2.2.1 (by decide), h.O1.ouSkip he fun z => by rw [hn.2.2] at z; exact absurd z.2.2.1 (by decide)⟩
theorem TF.in1 {log : List Ev} {s : TS} (h : TF log s) {e : Ev} (he : log[s.i]? = some e) (hn : e.ret = true ∧ e.ck ≠ 6 ∧ e.ra = 0) (hb : boxOf e.ck = true) : TF log ⟨s.i + 1, s.I0, mput s.I1 (ek e.cp e.cv) (.int .i64 (((inC true (log.take s.i) (ek e.cp e.cv) : Nat) : Int) + 1)), s.O0, s.O1⟩ :=
  ⟨(List.getElem?_eq_some_iff.1 he).1, h.I0.inSkip he fun z => by rw [hb] at z; exact absurd z.2.2.2 (by decide), h.I1.inPut he ⟨hn.1, hn.2.1, hn.2.2, hb⟩, h.O0.ouSkip he fun z => by rw [hn.2.2] at z; exact absurd z.2.2.1 (by decide), h.O1.ouSkip he fun z => by rw [hn.2.2] at z; exact absurd z.2.2.1 (by decide)⟩
theorem TF.ou0 {log : List Ev} {s : TS} (h : TF log s) {e : Ev} (he : log[s.i]? = some e) (hn : e.ret = true ∧ e.ck ≠ 6 ∧ e.ra = 1) (hb : boxOf e.ck = false) : TF log ⟨s.i + 1, s.I0, s.I1, mput s.O0 (ek e.rp e.rv) (.int .i64 (((ouC false (log.take s.i) (ek e.rp e.rv) : Nat) : Int) + 1)), s.O1⟩ :=
  ⟨(List.getElem?_eq_some_iff.1 he).1, h.I0.inSkip he fun z => by rw [hn.2.2] at z; exact absurd z.2.2.1 (by decide), h.I1.inSkip he fun z => by rw [hn.2.2] at z; exact absurd z.2.2.1 (by decide), h.O0.ouPut he ⟨hn.1, hn.2.1, hn.2.2, hb⟩, h.O1.ouSkip he fun z => by rw [hb] at z; exact absurd z.2.2.2 (by decide)⟩
theorem TF.ou1 {log : List Ev} {s : TS} (h : TF log s) {e : Ev} (he : log[s.i]? = some e) (hn : e.ret = true ∧ e.ck ≠ 6 ∧ e.ra = 1) (hb : boxOf e.ck = true) : TF log ⟨s.i + 1, s.I0, s.I1, s.O0, mput s.O1 (ek e.rp e.rv) (.int .i64 (((ouC true (log.take s.i) (ek e.rp e.rv) : Nat) : Int) + 1))⟩ :=
  ⟨(List.getElem?_eq_some_iff.1 he).1, h.I0.inSkip he fun z => by rw [hn.2.2] at z; exact absurd z.2.2.1 (by decide), h.I1.inSkip he fun z => by rw [hn.2.2] at z; exact absurd z.2.2.1 (by decide), h.O0.ouSkip he fun z => by rw [hb] at z; exact absurd z.2.2.2 (by decide), h.O1.ouPut he ⟨hn.1, hn.2.1, hn.2.2, hb⟩⟩


theorem om_f {z : Value} (i j : Nat) : (mget (mput (mput [] false (.map (some i))) true (.map (some j))) false).getD z = .map (some i) := rfl
theorem om_t {z : Value} (i j : Nat) : (mget (mput (mput [] false (.map (some i))) true (.map (some j))) true).getD z = .map (some j) := rfl

set_option maxHeartbeats 4000000 in
theorem tally_spec (lb cap : Nat) (junk : List Value) (log : List Ev) (hlen : log.length ≤ 1000100) (hrg : ∀ e ∈ log, (InR e.cv ∧ InR e.cp) ∧ InR e.rv ∧ InR e.rp) : Sp Tryf.prog 17 #[.slice (some ⟨lb, 0, none⟩) log.length cap] [(lb, C (log.flatMap evL ++ junk) 62)] (fun v F' => ∃ o1 o2 i0 i1 j0 j1 s, TF log s ∧ s.i = log.length ∧ v = .tuple #[.map (some o1), .map (some o2)] ∧ F' = [(lb, C (log.flatMap evL ++ junk) 62), (o1, MO kBool (mput (mput [] false (.map (some i0))) true (.map (some i1)))), (o2, MO kBool (mput (mput [] false (.map (some j0))) true (.map (some j1)))), (i0, MO k81 s.I0), (i1, MO k81 s.I1), (j0, MO k81 s.O0), (j1, MO k81 s.O1)]) := by
  refine f_enter (args := [.slice (some ⟨lb, 0, none⟩) log.length cap]) Tryf.func17 rfl Tryf.ntmps17 rfl ?_
  intro w0 w a hpre hl hh
  simp only [slotsFrom, Nat.reduceAdd] at hl
  refine c_seq ?_
  refine c_region ?_
  refine wl (wl_val hl rfl trivial (r_assign hl rfl) ?_)
  clear hl a; intro a hl
  refine wl (wl_val hl rfl trivial (r_assign hl rfl) ?_)
  clear hl a; intro a hl
  refine w_nil ?_
  have hl2 := hl.add (t := 0) (hl.nil) rfl; clear hl; have hl := hl2; clear hl2
  refine then_normal ?_
  refine c_seq ?_
  refine c_region ?_
  refine wl (w_makeMap kBool hl hh rfl trivial ?_)
  clear hl hh a w; intro k7 a w hl hh
  refine wl (w_makeMap k81 hl hh rfl trivial ?_)
  clear hl hh a w; intro k8 a w hl hh
  refine wl (w_insert (keyBool Tryf.underlying4) Tryf.underlying75 hl hh trivial rfl rfl rfl (by repeat (first | exact find_head | apply find_tail)) ?_)
  clear hh w; intro w hh
  refine wl (w_makeMap k81 hl hh rfl trivial ?_)
  clear hl hh a w; intro k9 a w hl hh
  refine wl (w_insert (keyBool Tryf.underlying4) Tryf.underlying75 hl hh trivial rfl rfl rfl (by repeat (first | exact find_head | apply find_tail)) ?_)
  clear hh w; intro w hh
  refine wl (wl_val hl rfl trivial (r_move hl rfl) ?_)
  clear hl a; intro a hl
  refine wl (wl_val hl rfl trivial (r_assign hl rfl) ?_)
  clear hl a; intro a hl
  refine w_nil ?_
  have hl2 := hl.add (t := 0) (hl.add (t := 2) (hl.nil) rfl) rfl; clear hl; have hl := hl2; clear hl2
  refine then_normal ?_
  refine c_seq ?_
  refine c_region ?_
  refine wl (w_makeMap kBool hl hh rfl trivial ?_)
  clear hl hh a w; intro k11 a w hl hh
  refine wl (w_makeMap k81 hl hh rfl trivial ?_)
  clear hl hh a w; intro k12 a w hl hh
  refine wl (w_insert (keyBool Tryf.underlying4) Tryf.underlying75 hl hh trivial rfl rfl rfl (by repeat (first | exact find_head | apply find_tail)) ?_)
  clear hh w; intro w hh
  refine wl (w_makeMap k81 hl hh rfl trivial ?_)
  clear hl hh a w; intro k13 a w hl hh
  refine wl (w_insert (keyBool Tryf.underlying4) Tryf.underlying75 hl hh trivial rfl rfl rfl (by repeat (first | exact find_head | apply find_tail)) ?_)
  clear hh w; intro w hh
  refine wl (wl_val hl rfl trivial (r_move hl rfl) ?_)
  clear hl a; intro a hl
  refine wl (wl_val hl rfl trivial (r_assign hl rfl) ?_)
  clear hl a; intro a hl
  refine w_nil ?_
  have hl2 := hl.add (t := 0) (hl.add (t := 2) (hl.add (t := 3) (hl.nil) rfl) rfl) rfl; clear hl; have hl := hl2; clear hl2
  refine then_normal ?_
  refine c_seq ?_
  refine c_seq ?_
  refine c_region ?_
  refine wl (wl_val hl rfl trivial (r_move hl rfl) ?_)
  clear hl a; intro a hl
  refine wl (wl_val hl rfl trivial (r_lenS hl rfl slc46) ?_)
  clear hl a; intro a hl
  refine wl (wl_val hl rfl trivial (r_move hl rfl) ?_)
  clear hl a; intro a hl
  refine w_nil ?_
  have hl2 := hl.add (t := 2) (hl.add (t := 3) (hl.add (t := 15) (hl.add (t := 16) (hl.add (t := 17) (hl.nil) rfl) rfl) rfl) rfl) rfl; clear hl; have hl := hl2; clear hl2
  refine then_normal ?_
  refine wp_block ?_
  obtain ⟨KS0, hKS0, hk⟩ := (hl.add (t := 2) (hl.add (t := 3) (hl.add (t := 15) (hl.add (t := 16) (hl.nil) rfl) rfl) rfl) rfl).name
  obtain ⟨HS0, hHS0, hh2⟩ := hh.name (keeps_cons (b := k8) (o' := MO k81 []) (by repeat (first | exact find_head | apply find_tail)) (by first | rfl) (keeps_cons (b := k9) (o' := MO k81 []) (by repeat (first | exact find_head | apply find_tail)) (by first | rfl) (keeps_cons (b := k12) (o' := MO k81 []) (by repeat (first | exact find_head | apply find_tail)) (by first | rfl) (keeps_cons (b := k13) (o' := MO k81 []) (by repeat (first | exact find_head | apply find_tail)) (by first | rfl) (keeps_nil)))))
  refine c_loop (α := TS) (fun s => log.length - s.i) (fun s a w => (TF log s) ∧ Sl 76 ([(17, .int .i64 (s.i : Int))] ++ KS0) a ∧ Has _ w0 ([(k8, MO k81 s.I0), (k9, MO k81 s.I1), (k12, MO k81 s.O0), (k13, MO k81 s.O1)] ++ HS0) w) ⟨0, [], [], [], []⟩ ⟨(TF.start log), hl.addE (t := 17) (hk) rfl (by first | rfl), hh2⟩ ?_
  clear hk hh2 hl hh a w
  intro s a w hI
  obtain ⟨hS, hl, hh⟩ := hI
  subst hKS0; subst hHS0
  simp only [List.cons_append, List.nil_append, List.append_nil] at hl hh
  have hsi := Nat.le_trans hS.i hlen
  refine c_seq ?_
  refine c_region ?_
  refine wl (wl_val hl rfl trivial (r_lss hl rfl rfl) ?_)
  clear hl a; intro a hl
  refine w_nil ?_
  have hl2 := hl.add (t := 2) (hl.add (t := 3) (hl.add (t := 15) (hl.add (t := 16) (hl.add (t := 17) (hl.add (t := 18) (hl.nil) rfl) rfl) rfl) rfl) rfl) rfl; clear hl; have hl := hl2; clear hl2
  refine then_normal ?_
  refine c_seq ?_
  refine c_cond hl rfl ?_ ?_
  · intro hc0
    try simp only [decide_eq_true_eq, decide_eq_false_iff_not, Bool.not_eq_true', Bool.not_eq_false', Bool.not_eq_true, Bool.not_eq_false, Bool.and_eq_true, Bool.or_eq_true, Bool.and_eq_false_iff, Bool.or_eq_false_iff, Bool.not_not, ne_eq, Int.not_lt, Int.not_le, Decidable.not_not, beq_iff_eq, bne_iff_ne] at hc0
    obtain ⟨e, he⟩ : ∃ e, log[s.i]? = some e := ⟨_, List.getElem?_eq_getElem (by omega)⟩
    have hev := ev_at log junk s.i e he
    obtain ⟨⟨g1, g2⟩, g3, g4⟩ := hrg e (List.mem_of_getElem? he)
    obtain ⟨et, er, eck, ecv, ecp, era, erv, erp⟩ := e
    simp only [evL] at hev
    dsimp only at g1 g2 g3 g4
    refine wp_skip ?_
    refine then_normal ?_
    refine c_seq ?_
    refine wp_block ?_
    refine c_seq ?_
    refine c_region ?_
    refine wl (wl_val hl rfl trivial (r_indexS hl rfl rfl slc46 (by omega) (by omega) (by first | (simp only [Int.reduceToNat]; rfl) | exact toNat_add1 _ | exact toNat_add2 _ _ | exact toNat_emod _ _ | exact Int.toNat_natCast _ | rfl)) ?_)
    clear hl a; intro a hl
    refine wl (w_loadA hl hh rfl trivial agg62 rfl (by repeat (first | exact find_head | apply find_tail)) (by exact hev) (by rfl) ?_)
    clear hl a; intro a hl
    refine wl (w_alloc hl hh rfl trivial zero62 rfl ?_)
    clear hl hh a w; intro k5 a w hl hh
    refine wl (w_storeA hl hh trivial agg62 rfl rfl (by repeat (first | exact find_head | apply find_tail)) (by first | rfl | (simp; done)) (by first | (simp; done) | (simp; omega)) (by first | rfl | (simp; done)) (by first | (simp only [setL, List.getElem?_cons_zero, List.getElem?_cons_succ, Value.cells, List.take_zero, List.take_succ_cons, List.take_nil, List.drop_zero, List.drop_succ_cons, List.drop_nil, List.length_cons, List.length_nil, List.cons_append, List.nil_append, List.append_nil, Nat.zero_add, Nat.add_zero, Nat.reduceAdd, Nat.reduceBEq, Nat.reduceEqDiff, Nat.ble, BEq.rfl, Bool.and_true, Bool.and_self, cond_true, beq_self_eq_true]; rfl)) ?_)
    clear hh w; intro w hh
    refine w_nil ?_
    have hl2 := hl.add (t := 2) (hl.add (t := 3) (hl.add (t := 5) (hl.add (t := 15) (hl.add (t := 16) (hl.add (t := 17) (hl.nil) rfl) rfl) rfl) rfl) rfl) rfl; clear hl; have hl := hl2; clear hl2
    refine then_normal ?_
    refine c_seq ?_
    refine c_region ?_
    refine wl (wl_val hl rfl trivial (r_field hl rfl fld62_2) ?_)
    clear hl a; intro a hl
    refine wl (wl_val hl rfl trivial (r_field hl rfl fld44_0) ?_)
    clear hl a; intro a hl
    refine wl (w_load hl hh rfl trivial one30 rfl (by repeat (first | exact find_head | apply find_tail)) (by first | rfl) ?_)
    clear hl a; intro a hl
    refine wl (wl_val hl rfl trivial (r_geq hl rfl rfl) ?_)
    clear hl a; intro a hl
    refine wl (wl_val hl rfl trivial (r_assign hl rfl) ?_)
    clear hl a; intro a hl
    refine w_nil ?_
    have hl2 := hl.add (t := 2) (hl.add (t := 3) (hl.add (t := 5) (hl.add (t := 6) (hl.add (t := 15) (hl.add (t := 16) (hl.add (t := 17) (hl.nil) rfl) rfl) rfl) rfl) rfl) rfl) rfl; clear hl; have hl := hl2; clear hl2
    by_cases hbx : (4 : Int) ≤ eck
    ·
      skip
      have hb1 : boxOf eck = true := decide_eq_true hbx
      first | rw [show decide (eck ≥ 4) = true from hb1] at hl | rw [show decide ((4 : Int) ≤ eck) = true from hb1] at hl
      have gI := hS.I1.val (ek ecp ecv); have gI2 := hS.I1.val2 (ek ecp ecv); have gO := hS.O1.val (ek erp erv); have gO2 := hS.O1.val2 (ek erp erv)
      have bI := Nat.le_trans (inC_le true (log.take s.i) (ek ecp ecv)) (Nat.le_trans (List.length_take_le _ _) hsi)
      have bO := Nat.le_trans (ouC_le true (log.take s.i) (ek erp erv)) (Nat.le_trans (List.length_take_le _ _) hsi)
      
      refine then_normal ?_
      refine wp_block ?_
      refine c_seq ?_
      refine c_region ?_
      refine wl (wl_val hl rfl trivial (r_field hl rfl fld62_1) ?_)
      clear hl a; intro a hl
      refine wl (w_load hl hh rfl trivial one4 rfl (by repeat (first | exact find_head | apply find_tail)) (by first | rfl) ?_)
      clear hl a; intro a hl
      refine wl (wl_val hl rfl trivial (r_not hl rfl) ?_)
      clear hl a; intro a hl
      refine wl (wl_val hl rfl trivial (r_move hl rfl) ?_)
      clear hl a; intro a hl
      refine sl_split (t := 29) hl rfl ?_ ?_
      · intro hg1; clear hl; intro hl
        try simp only [decide_eq_true_eq, decide_eq_false_iff_not, Bool.not_eq_true', Bool.not_eq_false', Bool.not_eq_true, Bool.not_eq_false, Bool.and_eq_true, Bool.or_eq_true, Bool.and_eq_false_iff, Bool.or_eq_false_iff, Bool.not_not, ne_eq, Int.not_lt, Int.not_le, Decidable.not_not, beq_iff_eq, bne_iff_ne] at hg1
        refine wl (wl_skip hl rfl ⟨_, _, rfl, rfl, rfl⟩ ?_)
        clear hl a; intro a hl
        refine wl (wl_skip hl rfl ⟨_, _, rfl, rfl, rfl⟩ ?_)
        clear hl a; intro a hl
        refine wl (wl_skip hl rfl ⟨_, _, rfl, rfl, rfl⟩ ?_)
        clear hl a; intro a hl
        refine wl (wl_skip hl rfl ⟨_, _, rfl, rfl, rfl⟩ ?_)
        clear hl a; intro a hl
        refine wl (wl_val hl rfl trivial (r_pickT hl rfl rfl) ?_)
        clear hl a; intro a hl
        refine wl (wl_val hl rfl trivial (r_assign hl rfl) ?_)
        clear hl a; intro a hl
        refine w_nil ?_
        have hl2 := hl.add (t := 2) (hl.add (t := 3) (hl.add (t := 5) (hl.add (t := 6) (hl.add (t := 15) (hl.add (t := 16) (hl.add (t := 17) (hl.add (t := 25) (hl.nil) rfl) rfl) rfl) rfl) rfl) rfl) rfl) rfl; clear hl; have hl := hl2; clear hl2
        refine then_normal ?_
        refine c_condT hl rfl ?_
        have hsk : ¬ (er = true ∧ eck ≠ 6 ∧ (era = 0 ∨ era = 1)) := by first | exact fun z => Bool.noConfusion (hg1.symm.trans z.1) | exact fun z => Bool.noConfusion (hg2.symm.trans z.1) | exact fun z => Bool.noConfusion (hg3.symm.trans z.1) | exact fun z => z.2.1 hc1
        refine wp_skip ?_
        refine blk_normal ?_
        refine blk_normal ?_
        refine then_normal ?_
        refine c_region ?_
        first | refine wl (wl_val hl rfl trivial (r_add hl rfl rfl (by simp only [Fits]; omega)) ?_) | refine wl (wl_val hl rfl trivial (r_addW hl rfl rfl) ?_)
        clear hl a; intro a hl
        refine wl (wl_val hl rfl trivial (r_move hl rfl) ?_)
        clear hl a; intro a hl
        refine w_nil ?_
        have hl2 := hl.add (t := 2) (hl.add (t := 3) (hl.add (t := 15) (hl.add (t := 16) (hl.add (t := 17) (hl.nil) rfl) rfl) rfl) rfl) rfl; clear hl; have hl := hl2; clear hl2
        refine then_normal ?_
        first | refine ⟨(⟨s.i + 1, s.I0, s.I1, s.O0, s.O1⟩ : TS), (by simp only; omega), (hS.skip he hsk), hl.addE (t := 17) (hl.addE (t := 2) (hl.addE (t := 3) (hl.addE (t := 15) (hl.addE (t := 16) (hl.nil) rfl (by first | rfl | rfl)) rfl (by first | rfl | rfl)) rfl (by first | rfl | rfl)) rfl (by first | rfl | rfl)) rfl (by first | rfl | rfl), hh.keep (by repeat (first | exact keeps_nil | apply keeps_cons (by repeat (first | exact find_head | apply find_tail)) (by first  | rfl) | exact keeps_self | apply keeps_mv))⟩ | refine ⟨(⟨s.i + 1, mput s.I0 (ek ecp ecv) (.int .i64 (((inC false (log.take s.i) (ek ecp ecv) : Nat) : Int) + 1)), s.I1, s.O0, s.O1⟩ : TS), (by simp only; omega), (hS.in0 he hin hb0), hl.addE (t := 17) (hl.addE (t := 2) (hl.addE (t := 3) (hl.addE (t := 15) (hl.addE (t := 16) (hl.nil) rfl (by first | rfl | rfl)) rfl (by first | rfl | rfl)) rfl (by first | rfl | rfl)) rfl (by first | rfl | rfl)) rfl (by first | rfl | rfl), hh.keep (by repeat (first | exact keeps_nil | apply keeps_cons (by repeat (first | exact find_head | apply find_tail)) (by first  | rfl) | exact keeps_self | apply keeps_mv))⟩ | refine ⟨(⟨s.i + 1, s.I0, mput s.I1 (ek ecp ecv) (.int .i64 (((inC true (log.take s.i) (ek ecp ecv) : Nat) : Int) + 1)), s.O0, s.O1⟩ : TS), (by simp only; omega), (hS.in1 he hin hb1), hl.addE (t := 17) (hl.addE (t := 2) (hl.addE (t := 3) (hl.addE (t := 15) (hl.addE (t := 16) (hl.nil) rfl (by first | rfl | rfl)) rfl (by first | rfl | rfl)) rfl (by first | rfl | rfl)) rfl (by first | rfl | rfl)) rfl (by first | rfl | rfl), hh.keep (by repeat (first | exact keeps_nil | apply keeps_cons (by repeat (first | exact find_head | apply find_tail)) (by first  | rfl) | exact keeps_self | apply keeps_mv))⟩ | refine ⟨(⟨s.i + 1, s.I0, s.I1, mput s.O0 (ek erp erv) (.int .i64 (((ouC false (log.take s.i) (ek erp erv) : Nat) : Int) + 1)), s.O1⟩ : TS), (by simp only; omega), (hS.ou0 he hou hb0), hl.addE (t := 17) (hl.addE (t := 2) (hl.addE (t := 3) (hl.addE (t := 15) (hl.addE (t := 16) (hl.nil) rfl (by first | rfl | rfl)) rfl (by first | rfl | rfl)) rfl (by first | rfl | rfl)) rfl (by first | rfl | rfl)) rfl (by first | rfl | rfl), hh.keep (by repeat (first | exact keeps_nil | apply keeps_cons (by repeat (first | exact find_head | apply find_tail)) (by first  | rfl) | exact keeps_self | apply keeps_mv))⟩ | refine ⟨(⟨s.i + 1, s.I0, s.I1, s.O0, mput s.O1 (ek erp erv) (.int .i64 (((ouC true (log.take s.i) (ek erp erv) : Nat) : Int) + 1))⟩ : TS), (by simp only; omega), (hS.ou1 he hou hb1), hl.addE (t := 17) (hl.addE (t := 2) (hl.addE (t := 3) (hl.addE (t := 15) (hl.addE (t := 16) (hl.nil) rfl (by first | rfl | rfl)) rfl (by first | rfl | rfl)) rfl (by first | rfl | rfl)) rfl (by first | rfl | rfl)) rfl (by first | rfl | rfl), hh.keep (by repeat (first | exact keeps_nil | apply keeps_cons (by repeat (first | exact find_head | apply find_tail)) (by first  | rfl) | exact keeps_self | apply keeps_mv))⟩
      · intro hg1; clear hl; intro hl
        try simp only [decide_eq_true_eq, decide_eq_false_iff_not, Bool.not_eq_true', Bool.not_eq_false', Bool.not_eq_true, Bool.not_eq_false, Bool.and_eq_true, Bool.or_eq_true, Bool.and_eq_false_iff, Bool.or_eq_false_iff, Bool.not_not, ne_eq, Int.not_lt, Int.not_le, Decidable.not_not, beq_iff_eq, bne_iff_ne] at hg1
        refine wl (wl_val hl rfl ⟨_, _, rfl, rfl, rfl⟩ (r_field hl rfl fld62_2) ?_)
        clear hl a; intro a hl
        refine wl (wl_val hl rfl ⟨_, _, rfl, rfl, rfl⟩ (r_field hl rfl fld44_0) ?_)
        clear hl a; intro a hl
        refine wl (w_load hl hh rfl ⟨_, _, rfl, rfl, rfl⟩ one30 rfl (by repeat (first | exact find_head | apply find_tail)) (by first | rfl) ?_)
        clear hl a; intro a hl
        refine wl (wl_val hl rfl ⟨_, _, rfl, rfl, rfl⟩ (r_eql hl rfl rfl) ?_)
        clear hl a; intro a hl
        refine wl (wl_val hl rfl trivial (r_pickF hl rfl rfl) ?_)
        clear hl a; intro a hl
        refine wl (wl_val hl rfl trivial (r_assign hl rfl) ?_)
        clear hl a; intro a hl
        refine w_nil ?_
        have hl2 := hl.add (t := 2) (hl.add (t := 3) (hl.add (t := 5) (hl.add (t := 6) (hl.add (t := 15) (hl.add (t := 16) (hl.add (t := 17) (hl.add (t := 25) (hl.nil) rfl) rfl) rfl) rfl) rfl) rfl) rfl) rfl; clear hl; have hl := hl2; clear hl2
        refine then_normal ?_
        refine c_cond hl rfl ?_ ?_
        · intro hc1
          try simp only [decide_eq_true_eq, decide_eq_false_iff_not, Bool.not_eq_true', Bool.not_eq_false', Bool.not_eq_true, Bool.not_eq_false, Bool.and_eq_true, Bool.or_eq_true, Bool.and_eq_false_iff, Bool.or_eq_false_iff, Bool.not_not, ne_eq, Int.not_lt, Int.not_le, Decidable.not_not, beq_iff_eq, bne_iff_ne] at hc1
          have hsk : ¬ (er = true ∧ eck ≠ 6 ∧ (era = 0 ∨ era = 1)) := by first | exact fun z => Bool.noConfusion (hg1.symm.trans z.1) | exact fun z => Bool.noConfusion (hg2.symm.trans z.1) | exact fun z => Bool.noConfusion (hg3.symm.trans z.1) | exact fun z => z.2.1 hc1
          refine wp_skip ?_
          refine blk_normal ?_
          refine blk_normal ?_
          refine then_normal ?_
          refine c_region ?_
          first | refine wl (wl_val hl rfl trivial (r_add hl rfl rfl (by simp only [Fits]; omega)) ?_) | refine wl (wl_val hl rfl trivial (r_addW hl rfl rfl) ?_)
          clear hl a; intro a hl
          refine wl (wl_val hl rfl trivial (r_move hl rfl) ?_)
          clear hl a; intro a hl
          refine w_nil ?_
          have hl2 := hl.add (t := 2) (hl.add (t := 3) (hl.add (t := 15) (hl.add (t := 16) (hl.add (t := 17) (hl.nil) rfl) rfl) rfl) rfl) rfl; clear hl; have hl := hl2; clear hl2
          refine then_normal ?_
          first | refine ⟨(⟨s.i + 1, s.I0, s.I1, s.O0, s.O1⟩ : TS), (by simp only; omega), (hS.skip he hsk), hl.addE (t := 17) (hl.addE (t := 2) (hl.addE (t := 3) (hl.addE (t := 15) (hl.addE (t := 16) (hl.nil) rfl (by first | rfl | rfl)) rfl (by first | rfl | rfl)) rfl (by first | rfl | rfl)) rfl (by first | rfl | rfl)) rfl (by first | rfl | rfl), hh.keep (by repeat (first | exact keeps_nil | apply keeps_cons (by repeat (first | exact find_head | apply find_tail)) (by first  | rfl) | exact keeps_self | apply keeps_mv))⟩ | refine ⟨(⟨s.i + 1, mput s.I0 (ek ecp ecv) (.int .i64 (((inC false (log.take s.i) (ek ecp ecv) : Nat) : Int) + 1)), s.I1, s.O0, s.O1⟩ : TS), (by simp only; omega), (hS.in0 he hin hb0), hl.addE (t := 17) (hl.addE (t := 2) (hl.addE (t := 3) (hl.addE (t := 15) (hl.addE (t := 16) (hl.nil) rfl (by first | rfl | rfl)) rfl (by first | rfl | rfl)) rfl (by first | rfl | rfl)) rfl (by first | rfl | rfl)) rfl (by first | rfl | rfl), hh.keep (by repeat (first | exact keeps_nil | apply keeps_cons (by repeat (first | exact find_head | apply find_tail)) (by first  | rfl) | exact keeps_self | apply keeps_mv))⟩ | refine ⟨(⟨s.i + 1, s.I0, mput s.I1 (ek ecp ecv) (.int .i64 (((inC true (log.take s.i) (ek ecp ecv) : Nat) : Int) + 1)), s.O0, s.O1⟩ : TS), (by simp only; omega), (hS.in1 he hin hb1), hl.addE (t := 17) (hl.addE (t := 2) (hl.addE (t := 3) (hl.addE (t := 15) (hl.addE (t := 16) (hl.nil) rfl (by first | rfl | rfl)) rfl (by first | rfl | rfl)) rfl (by first | rfl | rfl)) rfl (by first | rfl | rfl)) rfl (by first | rfl | rfl), hh.keep (by repeat (first | exact keeps_nil | apply keeps_cons (by repeat (first | exact find_head | apply find_tail)) (by first  | rfl) | exact keeps_self | apply keeps_mv))⟩ | refine ⟨(⟨s.i + 1, s.I0, s.I1, mput s.O0 (ek erp erv) (.int .i64 (((ouC false (log.take s.i) (ek erp erv) : Nat) : Int) + 1)), s.O1⟩ : TS), (by simp only; omega), (hS.ou0 he hou hb0), hl.addE (t := 17) (hl.addE (t := 2) (hl.addE (t := 3) (hl.addE (t := 15) (hl.addE (t := 16) (hl.nil) rfl (by first | rfl | rfl)) rfl (by first | rfl | rfl)) rfl (by first | rfl | rfl)) rfl (by first | rfl | rfl)) rfl (by first | rfl | rfl), hh.keep (by repeat (first | exact keeps_nil | apply keeps_cons (by repeat (first | exact find_head | apply find_tail)) (by first  | rfl) | exact keeps_self | apply keeps_mv))⟩ | refine ⟨(⟨s.i + 1, s.I0, s.I1, s.O0, mput s.O1 (ek erp erv) (.int .i64 (((ouC true (log.take s.i) (ek erp erv) : Nat) : Int) + 1))⟩ : TS), (by simp only; omega), (hS.ou1 he hou hb1), hl.addE (t := 17) (hl.addE (t := 2) (hl.addE (t := 3) (hl.addE (t := 15) (hl.addE (t := 16) (hl.nil) rfl (by first | rfl | rfl)) rfl (by first | rfl | rfl)) rfl (by first | rfl | rfl)) rfl (by first | rfl | rfl)) rfl (by first | rfl | rfl), hh.keep (by repeat (first | exact keeps_nil | apply keeps_cons (by repeat (first | exact find_head | apply find_tail)) (by first  | rfl) | exact keeps_self | apply keeps_mv))⟩
        · intro hc1
          try simp only [decide_eq_true_eq, decide_eq_false_iff_not, Bool.not_eq_true', Bool.not_eq_false', Bool.not_eq_true, Bool.not_eq_false, Bool.and_eq_true, Bool.or_eq_true, Bool.and_eq_false_iff, Bool.or_eq_false_iff, Bool.not_not, ne_eq, Int.not_lt, Int.not_le, Decidable.not_not, beq_iff_eq, bne_iff_ne] at hc1
          refine c_seq ?_
          refine c_region ?_
          refine wl (wl_val hl rfl trivial (r_field hl rfl fld62_3) ?_)
          clear hl a; intro a hl
          refine wl (wl_val hl rfl trivial (r_field hl rfl fld34_0) ?_)
          clear hl a; intro a hl
          refine wl (w_load hl hh rfl trivial one31 rfl (by repeat (first | exact find_head | apply find_tail)) (by first | rfl) ?_)
          clear hl a; intro a hl
          refine wl (wl_val hl rfl trivial (r_eql hl rfl rfl) ?_)
          clear hl a; intro a hl
          refine wl (wl_val hl rfl trivial (r_assign hl rfl) ?_)
          clear hl a; intro a hl
          refine w_nil ?_
          have hl2 := hl.add (t := 2) (hl.add (t := 3) (hl.add (t := 5) (hl.add (t := 6) (hl.add (t := 15) (hl.add (t := 16) (hl.add (t := 17) (hl.add (t := 35) (hl.nil) rfl) rfl) rfl) rfl) rfl) rfl) rfl) rfl; clear hl; have hl := hl2; clear hl2
          refine then_normal ?_
          refine c_cond hl rfl ?_ ?_
          · intro hc2
            try simp only [decide_eq_true_eq, decide_eq_false_iff_not, Bool.not_eq_true', Bool.not_eq_false', Bool.not_eq_true, Bool.not_eq_false, Bool.and_eq_true, Bool.or_eq_true, Bool.and_eq_false_iff, Bool.or_eq_false_iff, Bool.not_not, ne_eq, Int.not_lt, Int.not_le, Decidable.not_not, beq_iff_eq, bne_iff_ne] at hc2
            have hin : er = true ∧ eck ≠ 6 ∧ era = 0 := ⟨by first | exact hg1 | exact hg2 | exact hg3, hc1, hc2⟩
            refine c_draw [(k5, C [.int .i64 (et : Int), .bool er, .int .u8 eck, .int .u64 ecv, .int .u64 ecp, .int .u8 era, .int .u64 erv, .int .u64 erp] 62), (k7, MO kBool (mput (mput [] false (.map (some k8))) true (.map (some k9))))] [14] mixed hh ?_
            clear hh w; intro w hh
            have hM : Mem [(k5, C [.int .i64 (et : Int), .bool er, .int .u8 eck, .int .u64 ecv, .int .u64 ecp, .int .u8 era, .int .u64 erv, .int .u64 erp] 62), (k7, MO kBool (mput (mput [] false (.map (some k8))) true (.map (some k9))))] w := (by (repeat (first | exact Mem.nil | refine Mem.cons hh.mem (by (repeat (first | exact find_head | apply find_tail)); done) ?_ | refine Mem.consR hh (by assumption) (by simp) ?_ | fail)); done)
            refine d_take (i := 0) hl rfl (by kernel_rfl) (by kernel_rfl) (by kernel_rfl) (by kernel_rfl) (by kernel_rfl) rfl trivial (fun _ _ _ h => h) hM (fun w hC => r_move hl rfl) rfl ?_
            clear hl a; intro a hl
            refine d_take (i := 1) hl rfl (by kernel_rfl) (by kernel_rfl) (by kernel_rfl) (by kernel_rfl) (by kernel_rfl) rfl trivial (fun _ _ _ h => h) hM (fun w hC => r_move hl rfl) rfl ?_
            clear hl a; intro a hl
            refine d_take (i := 2) hl rfl (by kernel_rfl) (by kernel_rfl) (by kernel_rfl) (by kernel_rfl) (by kernel_rfl) rfl trivial (fun _ _ _ h => h) hM (fun w hC => r_lookup (keyBool Tryf.underlying4) Tryf.underlying75 zero79 hl rfl rfl (hC _ _ (Find.mem (by repeat (first | exact find_head | apply find_tail))))) rfl ?_
            clear hl a; intro a hl
            first | rw [om_f] at hl | rw [om_t] at hl | rw [gI2] at hl | rw [gI] at hl
            refine d_take (i := 3) hl rfl (by kernel_rfl) (by kernel_rfl) (by kernel_rfl) (by kernel_rfl) (by kernel_rfl) rfl trivial (fun _ _ _ h => h) hM (fun w hC => r_field hl rfl fld62_2) rfl ?_
            clear hl a; intro a hl
            refine d_take (i := 4) hl rfl (by kernel_rfl) (by kernel_rfl) (by kernel_rfl) (by kernel_rfl) (by kernel_rfl) rfl trivial (fun _ _ _ h => h) hM (fun w hC => r_field hl rfl fld44_2) rfl ?_
            clear hl a; intro a hl
            refine d_take (i := 5) hl rfl (by kernel_rfl) (by kernel_rfl) (by kernel_rfl) (by kernel_rfl) (by kernel_rfl) rfl trivial (fun _ _ _ h => h) hM (fun w hC => r_loadC hl rfl one32 hC (by repeat (first | exact find_head | apply find_tail)) (by first | rfl)) rfl ?_
            clear hl a; intro a hl
            refine d_take (i := 6) hl rfl (by kernel_rfl) (by kernel_rfl) (by kernel_rfl) (by kernel_rfl) (by kernel_rfl) rfl trivial (fun _ _ _ h => h) hM (fun w hC => r_field hl rfl fld62_2) rfl ?_
            clear hl a; intro a hl
            refine d_take (i := 7) hl rfl (by kernel_rfl) (by kernel_rfl) (by kernel_rfl) (by kernel_rfl) (by kernel_rfl) rfl trivial (fun _ _ _ h => h) hM (fun w hC => r_field hl rfl fld44_1) rfl ?_
            clear hl a; intro a hl
            refine d_take (i := 8) hl rfl (by kernel_rfl) (by kernel_rfl) (by kernel_rfl) (by kernel_rfl) (by kernel_rfl) rfl trivial (fun _ _ _ h => h) hM (fun w hC => r_loadC hl rfl one32 hC (by repeat (first | exact find_head | apply find_tail)) (by first | rfl)) rfl ?_
            clear hl a; intro a hl
            refine d_take (i := 9) hl rfl (by kernel_rfl) (by kernel_rfl) (by kernel_rfl) (by kernel_rfl) (by kernel_rfl) rfl trivial (fun _ _ _ h => h) hM (fun w hC => r_build hl rfl zero81 bld81 (by simp only [fillL, setL, List.getElem?_cons_zero, List.getElem?_cons_succ, Value.cells, List.take_zero, List.take_succ_cons, List.take_nil, List.drop_zero, List.drop_succ_cons, List.drop_nil, List.length_cons, List.length_nil, List.cons_append, List.nil_append, List.append_nil, Nat.zero_add, Nat.add_zero, Nat.reduceAdd, Nat.reduceBEq, Nat.reduceEqDiff, Nat.ble, BEq.rfl, Bool.and_true, Bool.and_self, cond_true, beq_self_eq_true]; rfl)) rfl ?_
            clear hl a; intro a hl
            rw [ek_eq g2 g1] at hl
            refine d_two (i := 10) (j := 12) (by kernel_rfl) rfl rfl ?_ ?_
            ·
              try clear hM
              refine id (w_lookup key81 Tryf.underlying79 zero3 hl hh rfl trivial rfl rfl (by repeat (first | exact find_head | apply find_tail)) ?_)
              clear hl a; intro a hl
              first | rw [om_f] at hl | rw [om_t] at hl | rw [gI2] at hl | rw [gI] at hl
              have hM : Mem [(k5, C [.int .i64 (et : Int), .bool er, .int .u8 eck, .int .u64 ecv, .int .u64 ecp, .int .u8 era, .int .u64 erv, .int .u64 erp] 62), (k7, MO kBool (mput (mput [] false (.map (some k8))) true (.map (some k9))))] w := (by (repeat (first | exact Mem.nil | refine Mem.cons hh.mem (by (repeat (first | exact find_head | apply find_tail)); done) ?_ | refine Mem.consR hh (by assumption) (by simp) ?_ | fail)); done)
              refine d_step (fun _ => hM) ?_
              first | refine d_take (i := 11) hl rfl (by kernel_rfl) (by kernel_rfl) (by kernel_rfl) (by kernel_rfl) (by kernel_rfl) rfl trivial (fun _ _ _ h => h) hM (fun w hC => r_add hl rfl rfl (by simp only [Fits]; omega)) rfl ?_ | refine d_take (i := 11) hl rfl (by kernel_rfl) (by kernel_rfl) (by kernel_rfl) (by kernel_rfl) (by kernel_rfl) rfl trivial (fun _ _ _ h => h) hM (fun w hC => r_addW hl rfl rfl) rfl ?_
              clear hl a; intro a hl
              refine d_one (i := 12) (by kernel_rfl) rfl ?_
              try clear hM
              refine id (w_mapEntry key81 Tryf.underlying79 zero3 hl hh rfl trivial rfl rfl (by repeat (first | exact find_head | apply find_tail)) ?_)
              clear hl hh a w; intro i52 hi52 a w hl hh
              have hM : Mem [(k5, C [.int .i64 (et : Int), .bool er, .int .u8 eck, .int .u64 ecv, .int .u64 ecp, .int .u8 era, .int .u64 erv, .int .u64 erp] 62), (k7, MO kBool (mput (mput [] false (.map (some k8))) true (.map (some k9))))] w := (by (repeat (first | exact Mem.nil | refine Mem.cons hh.mem (by (repeat (first | exact find_head | apply find_tail)); done) ?_ | refine Mem.consR hh (by assumption) (by simp) ?_ | fail)); done)
              refine d_step (fun _ => hM) ?_
              refine d_take (i := 13) hl rfl (by kernel_rfl) (by kernel_rfl) (by kernel_rfl) (by kernel_rfl) (by kernel_rfl) rfl trivial (fun _ _ _ h => h) hM (fun w hC => r_extract hl rfl (by simp only [List.getElem?_toArray, List.getElem?_cons_zero, List.getElem?_cons_succ]; rfl)) rfl ?_
              clear hl a; intro a hl
              refine d_one (i := 14) (by kernel_rfl) rfl ?_
              try clear hM
              refine id (w_entryStore hi52 hl hh trivial rfl rfl rfl (by repeat (first | exact find_head | apply find_tail)) ?_)
              clear hh w; intro w hh; rw [mput_mput] at hh
              refine d_step (fun h => absurd h (by decide)) ?_
              refine d_done (by kernel_rfl) ?_
              try clear hM
              have hl2 := hl.add (t := 2) (hl.add (t := 3) (hl.add (t := 15) (hl.add (t := 16) (hl.add (t := 17) (hl.nil) rfl) rfl) rfl) rfl) rfl; clear hl; have hl := hl2; clear hl2
              refine blk_normal ?_
              refine blk_normal ?_
              refine then_normal ?_
              refine c_region ?_
              first | refine wl (wl_val hl rfl trivial (r_add hl rfl rfl (by simp only [Fits]; omega)) ?_) | refine wl (wl_val hl rfl trivial (r_addW hl rfl rfl) ?_)
              clear hl a; intro a hl
              refine wl (wl_val hl rfl trivial (r_move hl rfl) ?_)
              clear hl a; intro a hl
              refine w_nil ?_
              have hl2 := hl.add (t := 2) (hl.add (t := 3) (hl.add (t := 15) (hl.add (t := 16) (hl.add (t := 17) (hl.nil) rfl) rfl) rfl) rfl) rfl; clear hl; have hl := hl2; clear hl2
              refine then_normal ?_
              first | refine ⟨(⟨s.i + 1, s.I0, s.I1, s.O0, s.O1⟩ : TS), (by simp only; omega), (hS.skip he hsk), hl.addE (t := 17) (hl.addE (t := 2) (hl.addE (t := 3) (hl.addE (t := 15) (hl.addE (t := 16) (hl.nil) rfl (by first | rfl | rfl)) rfl (by first | rfl | rfl)) rfl (by first | rfl | rfl)) rfl (by first | rfl | rfl)) rfl (by first | rfl | rfl), hh.keep (by repeat (first | exact keeps_nil | apply keeps_cons (by repeat (first | exact find_head | apply find_tail)) (by first  | rfl) | exact keeps_self | apply keeps_mv))⟩ | refine ⟨(⟨s.i + 1, mput s.I0 (ek ecp ecv) (.int .i64 (((inC false (log.take s.i) (ek ecp ecv) : Nat) : Int) + 1)), s.I1, s.O0, s.O1⟩ : TS), (by simp only; omega), (hS.in0 he hin hb0), hl.addE (t := 17) (hl.addE (t := 2) (hl.addE (t := 3) (hl.addE (t := 15) (hl.addE (t := 16) (hl.nil) rfl (by first | rfl | rfl)) rfl (by first | rfl | rfl)) rfl (by first | rfl | rfl)) rfl (by first | rfl | rfl)) rfl (by first | rfl | rfl), hh.keep (by repeat (first | exact keeps_nil | apply keeps_cons (by repeat (first | exact find_head | apply find_tail)) (by first  | rfl) | exact keeps_self | apply keeps_mv))⟩ | refine ⟨(⟨s.i + 1, s.I0, mput s.I1 (ek ecp ecv) (.int .i64 (((inC true (log.take s.i) (ek ecp ecv) : Nat) : Int) + 1)), s.O0, s.O1⟩ : TS), (by simp only; omega), (hS.in1 he hin hb1), hl.addE (t := 17) (hl.addE (t := 2) (hl.addE (t := 3) (hl.addE (t := 15) (hl.addE (t := 16) (hl.nil) rfl (by first | rfl | rfl)) rfl (by first | rfl | rfl)) rfl (by first | rfl | rfl)) rfl (by first | rfl | rfl)) rfl (by first | rfl | rfl), hh.keep (by repeat (first | exact keeps_nil | apply keeps_cons (by repeat (first | exact find_head | apply find_tail)) (by first  | rfl) | exact keeps_self | apply keeps_mv))⟩ | refine ⟨(⟨s.i + 1, s.I0, s.I1, mput s.O0 (ek erp erv) (.int .i64 (((ouC false (log.take s.i) (ek erp erv) : Nat) : Int) + 1)), s.O1⟩ : TS), (by simp only; omega), (hS.ou0 he hou hb0), hl.addE (t := 17) (hl.addE (t := 2) (hl.addE (t := 3) (hl.addE (t := 15) (hl.addE (t := 16) (hl.nil) rfl (by first | rfl | rfl)) rfl (by first | rfl | rfl)) rfl (by first | rfl | rfl)) rfl (by first | rfl | rfl)) rfl (by first | rfl | rfl), hh.keep (by repeat (first | exact keeps_nil | apply keeps_cons (by repeat (first | exact find_head | apply find_tail)) (by first  | rfl) | exact keeps_self | apply keeps_mv))⟩ | refine ⟨(⟨s.i + 1, s.I0, s.I1, s.O0, mput s.O1 (ek erp erv) (.int .i64 (((ouC true (log.take s.i) (ek erp erv) : Nat) : Int) + 1))⟩ : TS), (by simp only; omega), (hS.ou1 he hou hb1), hl.addE (t := 17) (hl.addE (t := 2) (hl.addE (t := 3) (hl.addE (t := 15) (hl.addE (t := 16) (hl.nil) rfl (by first | rfl | rfl)) rfl (by first | rfl | rfl)) rfl (by first | rfl | rfl)) rfl (by first | rfl | rfl)) rfl (by first | rfl | rfl), hh.keep (by repeat (first | exact keeps_nil | apply keeps_cons (by repeat (first | exact find_head | apply find_tail)) (by first  | rfl) | exact keeps_self | apply keeps_mv))⟩
            ·
              try clear hM
              refine id (w_mapEntry key81 Tryf.underlying79 zero3 hl hh rfl trivial rfl rfl (by repeat (first | exact find_head | apply find_tail)) ?_)
              clear hl hh a w; intro i52 hi52 a w hl hh
              have hM : Mem [(k5, C [.int .i64 (et : Int), .bool er, .int .u8 eck, .int .u64 ecv, .int .u64 ecp, .int .u8 era, .int .u64 erv, .int .u64 erp] 62), (k7, MO kBool (mput (mput [] false (.map (some k8))) true (.map (some k9))))] w := (by (repeat (first | exact Mem.nil | refine Mem.cons hh.mem (by (repeat (first | exact find_head | apply find_tail)); done) ?_ | refine Mem.consR hh (by assumption) (by simp) ?_ | fail)); done)
              refine d_step (fun _ => hM) ?_
              refine d_take (i := 13) hl rfl (by kernel_rfl) (by kernel_rfl) (by kernel_rfl) (by kernel_rfl) (by kernel_rfl) rfl trivial (fun _ _ _ h => h) hM (fun w hC => r_extract hl rfl (by simp only [List.getElem?_toArray, List.getElem?_cons_zero, List.getElem?_cons_succ]; rfl)) rfl ?_
              clear hl a; intro a hl
              refine d_one (i := 10) (by kernel_rfl) rfl ?_
              try clear hM
              refine id (w_lookup key81 Tryf.underlying79 zero3 hl hh rfl trivial rfl rfl (by repeat (first | exact find_head | apply find_tail)) ?_)
              clear hl a; intro a hl
              first | rw [om_f] at hl | rw [om_t] at hl | rw [gI2] at hl | rw [gI] at hl
              have hM : Mem [(k5, C [.int .i64 (et : Int), .bool er, .int .u8 eck, .int .u64 ecv, .int .u64 ecp, .int .u8 era, .int .u64 erv, .int .u64 erp] 62), (k7, MO kBool (mput (mput [] false (.map (some k8))) true (.map (some k9))))] w := (by (repeat (first | exact Mem.nil | refine Mem.cons hh.mem (by (repeat (first | exact find_head | apply find_tail)); done) ?_ | refine Mem.consR hh (by assumption) (by simp) ?_ | fail)); done)
              refine d_step (fun _ => hM) ?_
              first | refine d_take (i := 11) hl rfl (by kernel_rfl) (by kernel_rfl) (by kernel_rfl) (by kernel_rfl) (by kernel_rfl) rfl trivial (fun _ _ _ h => h) hM (fun w hC => r_add hl rfl rfl (by simp only [Fits]; omega)) rfl ?_ | refine d_take (i := 11) hl rfl (by kernel_rfl) (by kernel_rfl) (by kernel_rfl) (by kernel_rfl) (by kernel_rfl) rfl trivial (fun _ _ _ h => h) hM (fun w hC => r_addW hl rfl rfl) rfl ?_
              clear hl a; intro a hl
              refine d_one (i := 14) (by kernel_rfl) rfl ?_
              try clear hM
              refine id (w_entryStore hi52 hl hh trivial rfl rfl rfl (by repeat (first | exact find_head | apply find_tail)) ?_)
              clear hh w; intro w hh; rw [mput_mput] at hh
              refine d_step (fun h => absurd h (by decide)) ?_
              refine d_done (by kernel_rfl) ?_
              try clear hM
              have hl2 := hl.add (t := 2) (hl.add (t := 3) (hl.add (t := 15) (hl.add (t := 16) (hl.add (t := 17) (hl.nil) rfl) rfl) rfl) rfl) rfl; clear hl; have hl := hl2; clear hl2
              refine blk_normal ?_
              refine blk_normal ?_
              refine then_normal ?_
              refine c_region ?_
              first | refine wl (wl_val hl rfl trivial (r_add hl rfl rfl (by simp only [Fits]; omega)) ?_) | refine wl (wl_val hl rfl trivial (r_addW hl rfl rfl) ?_)
              clear hl a; intro a hl
              refine wl (wl_val hl rfl trivial (r_move hl rfl) ?_)
              clear hl a; intro a hl
              refine w_nil ?_
              have hl2 := hl.add (t := 2) (hl.add (t := 3) (hl.add (t := 15) (hl.add (t := 16) (hl.add (t := 17) (hl.nil) rfl) rfl) rfl) rfl) rfl; clear hl; have hl := hl2; clear hl2
              refine then_normal ?_
              first | refine ⟨(⟨s.i + 1, s.I0, s.I1, s.O0, s.O1⟩ : TS), (by simp only; omega), (hS.skip he hsk), hl.addE (t := 17) (hl.addE (t := 2) (hl.addE (t := 3) (hl.addE (t := 15) (hl.addE (t := 16) (hl.nil) rfl (by first | rfl | rfl)) rfl (by first | rfl | rfl)) rfl (by first | rfl | rfl)) rfl (by first | rfl | rfl)) rfl (by first | rfl | rfl), hh.keep (by repeat (first | exact keeps_nil | apply keeps_cons (by repeat (first | exact find_head | apply find_tail)) (by first  | rfl) | exact keeps_self | apply keeps_mv))⟩ | refine ⟨(⟨s.i + 1, mput s.I0 (ek ecp ecv) (.int .i64 (((inC false (log.take s.i) (ek ecp ecv) : Nat) : Int) + 1)), s.I1, s.O0, s.O1⟩ : TS), (by simp only; omega), (hS.in0 he hin hb0), hl.addE (t := 17) (hl.addE (t := 2) (hl.addE (t := 3) (hl.addE (t := 15) (hl.addE (t := 16) (hl.nil) rfl (by first | rfl | rfl)) rfl (by first | rfl | rfl)) rfl (by first | rfl | rfl)) rfl (by first | rfl | rfl)) rfl (by first | rfl | rfl), hh.keep (by repeat (first | exact keeps_nil | apply keeps_cons (by repeat (first | exact find_head | apply find_tail)) (by first  | rfl) | exact keeps_self | apply keeps_mv))⟩ | refine ⟨(⟨s.i + 1, s.I0, mput s.I1 (ek ecp ecv) (.int .i64 (((inC true (log.take s.i) (ek ecp ecv) : Nat) : Int) + 1)), s.O0, s.O1⟩ : TS), (by simp only; omega), (hS.in1 he hin hb1), hl.addE (t := 17) (hl.addE (t := 2) (hl.addE (t := 3) (hl.addE (t := 15) (hl.addE (t := 16) (hl.nil) rfl (by first | rfl | rfl)) rfl (by first | rfl | rfl)) rfl (by first | rfl | rfl)) rfl (by first | rfl | rfl)) rfl (by first | rfl | rfl), hh.keep (by repeat (first | exact keeps_nil | apply keeps_cons (by repeat (first | exact find_head | apply find_tail)) (by first  | rfl) | exact keeps_self | apply keeps_mv))⟩ | refine ⟨(⟨s.i + 1, s.I0, s.I1, mput s.O0 (ek erp erv) (.int .i64 (((ouC false (log.take s.i) (ek erp erv) : Nat) : Int) + 1)), s.O1⟩ : TS), (by simp only; omega), (hS.ou0 he hou hb0), hl.addE (t := 17) (hl.addE (t := 2) (hl.addE (t := 3) (hl.addE (t := 15) (hl.addE (t := 16) (hl.nil) rfl (by first | rfl | rfl)) rfl (by first | rfl | rfl)) rfl (by first | rfl | rfl)) rfl (by first | rfl | rfl)) rfl (by first | rfl | rfl), hh.keep (by repeat (first | exact keeps_nil | apply keeps_cons (by repeat (first | exact find_head | apply find_tail)) (by first  | rfl) | exact keeps_self | apply keeps_mv))⟩ | refine ⟨(⟨s.i + 1, s.I0, s.I1, s.O0, mput s.O1 (ek erp erv) (.int .i64 (((ouC true (log.take s.i) (ek erp erv) : Nat) : Int) + 1))⟩ : TS), (by simp only; omega), (hS.ou1 he hou hb1), hl.addE (t := 17) (hl.addE (t := 2) (hl.addE (t := 3) (hl.addE (t := 15) (hl.addE (t := 16) (hl.nil) rfl (by first | rfl | rfl)) rfl (by first | rfl | rfl)) rfl (by first | rfl | rfl)) rfl (by first | rfl | rfl)) rfl (by first | rfl | rfl), hh.keep (by repeat (first | exact keeps_nil | apply keeps_cons (by repeat (first | exact find_head | apply find_tail)) (by first  | rfl) | exact keeps_self | apply keeps_mv))⟩
          · intro hc2
            try simp only [decide_eq_true_eq, decide_eq_false_iff_not, Bool.not_eq_true', Bool.not_eq_false', Bool.not_eq_true, Bool.not_eq_false, Bool.and_eq_true, Bool.or_eq_true, Bool.and_eq_false_iff, Bool.or_eq_false_iff, Bool.not_not, ne_eq, Int.not_lt, Int.not_le, Decidable.not_not, beq_iff_eq, bne_iff_ne] at hc2
            refine c_seq ?_
            refine c_region ?_
            refine wl (wl_val hl rfl trivial (r_field hl rfl fld62_3) ?_)
            clear hl a; intro a hl
            refine wl (wl_val hl rfl trivial (r_field hl rfl fld34_0) ?_)
            clear hl a; intro a hl
            refine wl (w_load hl hh rfl trivial one31 rfl (by repeat (first | exact find_head | apply find_tail)) (by first | rfl) ?_)
            clear hl a; intro a hl
            refine wl (wl_val hl rfl trivial (r_eql hl rfl rfl) ?_)
            clear hl a; intro a hl
            refine wl (wl_val hl rfl trivial (r_assign hl rfl) ?_)
            clear hl a; intro a hl
            refine w_nil ?_
            have hl2 := hl.add (t := 2) (hl.add (t := 3) (hl.add (t := 5) (hl.add (t := 6) (hl.add (t := 15) (hl.add (t := 16) (hl.add (t := 17) (hl.add (t := 54) (hl.nil) rfl) rfl) rfl) rfl) rfl) rfl) rfl) rfl; clear hl; have hl := hl2; clear hl2
            refine then_normal ?_
            refine c_cond hl rfl ?_ ?_
            · intro hc3
              try simp only [decide_eq_true_eq, decide_eq_false_iff_not, Bool.not_eq_true', Bool.not_eq_false', Bool.not_eq_true, Bool.not_eq_false, Bool.and_eq_true, Bool.or_eq_true, Bool.and_eq_false_iff, Bool.or_eq_false_iff, Bool.not_not, ne_eq, Int.not_lt, Int.not_le, Decidable.not_not, beq_iff_eq, bne_iff_ne] at hc3
              have hou : er = true ∧ eck ≠ 6 ∧ era = 1 := ⟨by first | exact hg1 | exact hg2 | exact hg3, hc1, hc3⟩
              refine c_draw [(k5, C [.int .i64 (et : Int), .bool er, .int .u8 eck, .int .u64 ecv, .int .u64 ecp, .int .u8 era, .int .u64 erv, .int .u64 erp] 62), (k11, MO kBool (mput (mput [] false (.map (some k12))) true (.map (some k13))))] [14] mixed hh ?_
              clear hh w; intro w hh
              have hM : Mem [(k5, C [.int .i64 (et : Int), .bool er, .int .u8 eck, .int .u64 ecv, .int .u64 ecp, .int .u8 era, .int .u64 erv, .int .u64 erp] 62), (k11, MO kBool (mput (mput [] false (.map (some k12))) true (.map (some k13))))] w := (by (repeat (first | exact Mem.nil | refine Mem.cons hh.mem (by (repeat (first | exact find_head | apply find_tail)); done) ?_ | refine Mem.consR hh (by assumption) (by simp) ?_ | fail)); done)
              refine d_take (i := 0) hl rfl (by kernel_rfl) (by kernel_rfl) (by kernel_rfl) (by kernel_rfl) (by kernel_rfl) rfl trivial (fun _ _ _ h => h) hM (fun w hC => r_move hl rfl) rfl ?_
              clear hl a; intro a hl
              refine d_take (i := 1) hl rfl (by kernel_rfl) (by kernel_rfl) (by kernel_rfl) (by kernel_rfl) (by kernel_rfl) rfl trivial (fun _ _ _ h => h) hM (fun w hC => r_move hl rfl) rfl ?_
              clear hl a; intro a hl
              refine d_take (i := 2) hl rfl (by kernel_rfl) (by kernel_rfl) (by kernel_rfl) (by kernel_rfl) (by kernel_rfl) rfl trivial (fun _ _ _ h => h) hM (fun w hC => r_lookup (keyBool Tryf.underlying4) Tryf.underlying75 zero79 hl rfl rfl (hC _ _ (Find.mem (by repeat (first | exact find_head | apply find_tail))))) rfl ?_
              clear hl a; intro a hl
              first | rw [om_f] at hl | rw [om_t] at hl | rw [gO2] at hl | rw [gO] at hl
              refine d_take (i := 3) hl rfl (by kernel_rfl) (by kernel_rfl) (by kernel_rfl) (by kernel_rfl) (by kernel_rfl) rfl trivial (fun _ _ _ h => h) hM (fun w hC => r_field hl rfl fld62_3) rfl ?_
              clear hl a; intro a hl
              refine d_take (i := 4) hl rfl (by kernel_rfl) (by kernel_rfl) (by kernel_rfl) (by kernel_rfl) (by kernel_rfl) rfl trivial (fun _ _ _ h => h) hM (fun w hC => r_field hl rfl fld34_2) rfl ?_
              clear hl a; intro a hl
              refine d_take (i := 5) hl rfl (by kernel_rfl) (by kernel_rfl) (by kernel_rfl) (by kernel_rfl) (by kernel_rfl) rfl trivial (fun _ _ _ h => h) hM (fun w hC => r_loadC hl rfl one32 hC (by repeat (first | exact find_head | apply find_tail)) (by first | rfl)) rfl ?_
              clear hl a; intro a hl
              refine d_take (i := 6) hl rfl (by kernel_rfl) (by kernel_rfl) (by kernel_rfl) (by kernel_rfl) (by kernel_rfl) rfl trivial (fun _ _ _ h => h) hM (fun w hC => r_field hl rfl fld62_3) rfl ?_
              clear hl a; intro a hl
              refine d_take (i := 7) hl rfl (by kernel_rfl) (by kernel_rfl) (by kernel_rfl) (by kernel_rfl) (by kernel_rfl) rfl trivial (fun _ _ _ h => h) hM (fun w hC => r_field hl rfl fld34_1) rfl ?_
              clear hl a; intro a hl
              refine d_take (i := 8) hl rfl (by kernel_rfl) (by kernel_rfl) (by kernel_rfl) (by kernel_rfl) (by kernel_rfl) rfl trivial (fun _ _ _ h => h) hM (fun w hC => r_loadC hl rfl one32 hC (by repeat (first | exact find_head | apply find_tail)) (by first | rfl)) rfl ?_
              clear hl a; intro a hl
              refine d_take (i := 9) hl rfl (by kernel_rfl) (by kernel_rfl) (by kernel_rfl) (by kernel_rfl) (by kernel_rfl) rfl trivial (fun _ _ _ h => h) hM (fun w hC => r_build hl rfl zero81 bld81 (by simp only [fillL, setL, List.getElem?_cons_zero, List.getElem?_cons_succ, Value.cells, List.take_zero, List.take_succ_cons, List.take_nil, List.drop_zero, List.drop_succ_cons, List.drop_nil, List.length_cons, List.length_nil, List.cons_append, List.nil_append, List.append_nil, Nat.zero_add, Nat.add_zero, Nat.reduceAdd, Nat.reduceBEq, Nat.reduceEqDiff, Nat.ble, BEq.rfl, Bool.and_true, Bool.and_self, cond_true, beq_self_eq_true]; rfl)) rfl ?_
              clear hl a; intro a hl
              rw [ek_eq g4 g3] at hl
              refine d_two (i := 10) (j := 12) (by kernel_rfl) rfl rfl ?_ ?_
              ·
                try clear hM
                refine id (w_lookup key81 Tryf.underlying79 zero3 hl hh rfl trivial rfl rfl (by repeat (first | exact find_head | apply find_tail)) ?_)
                clear hl a; intro a hl
                first | rw [om_f] at hl | rw [om_t] at hl | rw [gO2] at hl | rw [gO] at hl
                have hM : Mem [(k5, C [.int .i64 (et : Int), .bool er, .int .u8 eck, .int .u64 ecv, .int .u64 ecp, .int .u8 era, .int .u64 erv, .int .u64 erp] 62), (k11, MO kBool (mput (mput [] false (.map (some k12))) true (.map (some k13))))] w := (by (repeat (first | exact Mem.nil | refine Mem.cons hh.mem (by (repeat (first | exact find_head | apply find_tail)); done) ?_ | refine Mem.consR hh (by assumption) (by simp) ?_ | fail)); done)
                refine d_step (fun _ => hM) ?_
                first | refine d_take (i := 11) hl rfl (by kernel_rfl) (by kernel_rfl) (by kernel_rfl) (by kernel_rfl) (by kernel_rfl) rfl trivial (fun _ _ _ h => h) hM (fun w hC => r_add hl rfl rfl (by simp only [Fits]; omega)) rfl ?_ | refine d_take (i := 11) hl rfl (by kernel_rfl) (by kernel_rfl) (by kernel_rfl) (by kernel_rfl) (by kernel_rfl) rfl trivial (fun _ _ _ h => h) hM (fun w hC => r_addW hl rfl rfl) rfl ?_
                clear hl a; intro a hl
                refine d_one (i := 12) (by kernel_rfl) rfl ?_
                try clear hM
                refine id (w_mapEntry key81 Tryf.underlying79 zero3 hl hh rfl trivial rfl rfl (by repeat (first | exact find_head | apply find_tail)) ?_)
                clear hl hh a w; intro i71 hi71 a w hl hh
                have hM : Mem [(k5, C [.int .i64 (et : Int), .bool er, .int .u8 eck, .int .u64 ecv, .int .u64 ecp, .int .u8 era, .int .u64 erv, .int .u64 erp] 62), (k11, MO kBool (mput (mput [] false (.map (some k12))) true (.map (some k13))))] w := (by (repeat (first | exact Mem.nil | refine Mem.cons hh.mem (by (repeat (first | exact find_head | apply find_tail)); done) ?_ | refine Mem.consR hh (by assumption) (by simp) ?_ | fail)); done)
                refine d_step (fun _ => hM) ?_
                refine d_take (i := 13) hl rfl (by kernel_rfl) (by kernel_rfl) (by kernel_rfl) (by kernel_rfl) (by kernel_rfl) rfl trivial (fun _ _ _ h => h) hM (fun w hC => r_extract hl rfl (by simp only [List.getElem?_toArray, List.getElem?_cons_zero, List.getElem?_cons_succ]; rfl)) rfl ?_
                clear hl a; intro a hl
                refine d_one (i := 14) (by kernel_rfl) rfl ?_
                try clear hM
                refine id (w_entryStore hi71 hl hh trivial rfl rfl rfl (by repeat (first | exact find_head | apply find_tail)) ?_)
                clear hh w; intro w hh; rw [mput_mput] at hh
                refine d_step (fun h => absurd h (by decide)) ?_
                refine d_done (by kernel_rfl) ?_
                try clear hM
                have hl2 := hl.add (t := 2) (hl.add (t := 3) (hl.add (t := 15) (hl.add (t := 16) (hl.add (t := 17) (hl.nil) rfl) rfl) rfl) rfl) rfl; clear hl; have hl := hl2; clear hl2
                refine blk_normal ?_
                refine blk_normal ?_
                refine then_normal ?_
                refine c_region ?_
                first | refine wl (wl_val hl rfl trivial (r_add hl rfl rfl (by simp only [Fits]; omega)) ?_) | refine wl (wl_val hl rfl trivial (r_addW hl rfl rfl) ?_)
                clear hl a; intro a hl
                refine wl (wl_val hl rfl trivial (r_move hl rfl) ?_)
                clear hl a; intro a hl
                refine w_nil ?_
                have hl2 := hl.add (t := 2) (hl.add (t := 3) (hl.add (t := 15) (hl.add (t := 16) (hl.add (t := 17) (hl.nil) rfl) rfl) rfl) rfl) rfl; clear hl; have hl := hl2; clear hl2
                refine then_normal ?_
                first | refine ⟨(⟨s.i + 1, s.I0, s.I1, s.O0, s.O1⟩ : TS), (by simp only; omega), (hS.skip he hsk), hl.addE (t := 17) (hl.addE (t := 2) (hl.addE (t := 3) (hl.addE (t := 15) (hl.addE (t := 16) (hl.nil) rfl (by first | rfl | rfl)) rfl (by first | rfl | rfl)) rfl (by first | rfl | rfl)) rfl (by first | rfl | rfl)) rfl (by first | rfl | rfl), hh.keep (by repeat (first | exact keeps_nil | apply keeps_cons (by repeat (first | exact find_head | apply find_tail)) (by first  | rfl) | exact keeps_self | apply keeps_mv))⟩ | refine ⟨(⟨s.i + 1, mput s.I0 (ek ecp ecv) (.int .i64 (((inC false (log.take s.i) (ek ecp ecv) : Nat) : Int) + 1)), s.I1, s.O0, s.O1⟩ : TS), (by simp only; omega), (hS.in0 he hin hb0), hl.addE (t := 17) (hl.addE (t := 2) (hl.addE (t := 3) (hl.addE (t := 15) (hl.addE (t := 16) (hl.nil) rfl (by first | rfl | rfl)) rfl (by first | rfl | rfl)) rfl (by first | rfl | rfl)) rfl (by first | rfl | rfl)) rfl (by first | rfl | rfl), hh.keep (by repeat (first | exact keeps_nil | apply keeps_cons (by repeat (first | exact find_head | apply find_tail)) (by first  | rfl) | exact keeps_self | apply keeps_mv))⟩ | refine ⟨(⟨s.i + 1, s.I0, mput s.I1 (ek ecp ecv) (.int .i64 (((inC true (log.take s.i) (ek ecp ecv) : Nat) : Int) + 1)), s.O0, s.O1⟩ : TS), (by simp only; omega), (hS.in1 he hin hb1), hl.addE (t := 17) (hl.addE (t := 2) (hl.addE (t := 3) (hl.addE (t := 15) (hl.addE (t := 16) (hl.nil) rfl (by first | rfl | rfl)) rfl (by first | rfl | rfl)) rfl (by first | rfl | rfl)) rfl (by first | rfl | rfl)) rfl (by first | rfl | rfl), hh.keep (by repeat (first | exact keeps_nil | apply keeps_cons (by repeat (first | exact find_head | apply find_tail)) (by first  | rfl) | exact keeps_self | apply keeps_mv))⟩ | refine ⟨(⟨s.i + 1, s.I0, s.I1, mput s.O0 (ek erp erv) (.int .i64 (((ouC false (log.take s.i) (ek erp erv) : Nat) : Int) + 1)), s.O1⟩ : TS), (by simp only; omega), (hS.ou0 he hou hb0), hl.addE (t := 17) (hl.addE (t := 2) (hl.addE (t := 3) (hl.addE (t := 15) (hl.addE (t := 16) (hl.nil) rfl (by first | rfl | rfl)) rfl (by first | rfl | rfl)) rfl (by first | rfl | rfl)) rfl (by first | rfl | rfl)) rfl (by first | rfl | rfl), hh.keep (by repeat (first | exact keeps_nil | apply keeps_cons (by repeat (first | exact find_head | apply find_tail)) (by first  | rfl) | exact keeps_self | apply keeps_mv))⟩ | refine ⟨(⟨s.i + 1, s.I0, s.I1, s.O0, mput s.O1 (ek erp erv) (.int .i64 (((ouC true (log.take s.i) (ek erp erv) : Nat) : Int) + 1))⟩ : TS), (by simp only; omega), (hS.ou1 he hou hb1), hl.addE (t := 17) (hl.addE (t := 2) (hl.addE (t := 3) (hl.addE (t := 15) (hl.addE (t := 16) (hl.nil) rfl (by first | rfl | rfl)) rfl (by first | rfl | rfl)) rfl (by first | rfl | rfl)) rfl (by first | rfl | rfl)) rfl (by first | rfl | rfl), hh.keep (by repeat (first | exact keeps_nil | apply keeps_cons (by repeat (first | exact find_head | apply find_tail)) (by first  | rfl) | exact keeps_self | apply keeps_mv))⟩
              ·
                try clear hM
                refine id (w_mapEntry key81 Tryf.underlying79 zero3 hl hh rfl trivial rfl rfl (by repeat (first | exact find_head | apply find_tail)) ?_)
                clear hl hh a w; intro i71 hi71 a w hl hh
                have hM : Mem [(k5, C [.int .i64 (et : Int), .bool er, .int .u8 eck, .int .u64 ecv, .int .u64 ecp, .int .u8 era, .int .u64 erv, .int .u64 erp] 62), (k11, MO kBool (mput (mput [] false (.map (some k12))) true (.map (some k13))))] w := (by (repeat (first | exact Mem.nil | refine Mem.cons hh.mem (by (repeat (first | exact find_head | apply find_tail)); done) ?_ | refine Mem.consR hh (by assumption) (by simp) ?_ | fail)); done)
                refine d_step (fun _ => hM) ?_
                refine d_take (i := 13) hl rfl (by kernel_rfl) (by kernel_rfl) (by kernel_rfl) (by kernel_rfl) (by kernel_rfl) rfl trivial (fun _ _ _ h => h) hM (fun w hC => r_extract hl rfl (by simp only [List.getElem?_toArray, List.getElem?_cons_zero, List.getElem?_cons_succ]; rfl)) rfl ?_
                clear hl a; intro a hl
                refine d_one (i := 10) (by kernel_rfl) rfl ?_
                try clear hM
                refine id (w_lookup key81 Tryf.underlying79 zero3 hl hh rfl trivial rfl rfl (by repeat (first | exact find_head | apply find_tail)) ?_)
                clear hl a; intro a hl
                first | rw [om_f] at hl | rw [om_t] at hl | rw [gO2] at hl | rw [gO] at hl
                have hM : Mem [(k5, C [.int .i64 (et : Int), .bool er, .int .u8 eck, .int .u64 ecv, .int .u64 ecp, .int .u8 era, .int .u64 erv, .int .u64 erp] 62), (k11, MO kBool (mput (mput [] false (.map (some k12))) true (.map (some k13))))] w := (by (repeat (first | exact Mem.nil | refine Mem.cons hh.mem (by (repeat (first | exact find_head | apply find_tail)); done) ?_ | refine Mem.consR hh (by assumption) (by simp) ?_ | fail)); done)
                refine d_step (fun _ => hM) ?_
                first | refine d_take (i := 11) hl rfl (by kernel_rfl) (by kernel_rfl) (by kernel_rfl) (by kernel_rfl) (by kernel_rfl) rfl trivial (fun _ _ _ h => h) hM (fun w hC => r_add hl rfl rfl (by simp only [Fits]; omega)) rfl ?_ | refine d_take (i := 11) hl rfl (by kernel_rfl) (by kernel_rfl) (by kernel_rfl) (by kernel_rfl) (by kernel_rfl) rfl trivial (fun _ _ _ h => h) hM (fun w hC => r_addW hl rfl rfl) rfl ?_
                clear hl a; intro a hl
                refine d_one (i := 14) (by kernel_rfl) rfl ?_
                try clear hM
                refine id (w_entryStore hi71 hl hh trivial rfl rfl rfl (by repeat (first | exact find_head | apply find_tail)) ?_)
                clear hh w; intro w hh; rw [mput_mput] at hh
                refine d_step (fun h => absurd h (by decide)) ?_
                refine d_done (by kernel_rfl) ?_
                try clear hM
                have hl2 := hl.add (t := 2) (hl.add (t := 3) (hl.add (t := 15) (hl.add (t := 16) (hl.add (t := 17) (hl.nil) rfl) rfl) rfl) rfl) rfl; clear hl; have hl := hl2; clear hl2
                refine blk_normal ?_
                refine blk_normal ?_
                refine then_normal ?_
                refine c_region ?_
                first | refine wl (wl_val hl rfl trivial (r_add hl rfl rfl (by simp only [Fits]; omega)) ?_) | refine wl (wl_val hl rfl trivial (r_addW hl rfl rfl) ?_)
                clear hl a; intro a hl
                refine wl (wl_val hl rfl trivial (r_move hl rfl) ?_)
                clear hl a; intro a hl
                refine w_nil ?_
                have hl2 := hl.add (t := 2) (hl.add (t := 3) (hl.add (t := 15) (hl.add (t := 16) (hl.add (t := 17) (hl.nil) rfl) rfl) rfl) rfl) rfl; clear hl; have hl := hl2; clear hl2
                refine then_normal ?_
                first | refine ⟨(⟨s.i + 1, s.I0, s.I1, s.O0, s.O1⟩ : TS), (by simp only; omega), (hS.skip he hsk), hl.addE (t := 17) (hl.addE (t := 2) (hl.addE (t := 3) (hl.addE (t := 15) (hl.addE (t := 16) (hl.nil) rfl (by first | rfl | rfl)) rfl (by first | rfl | rfl)) rfl (by first | rfl | rfl)) rfl (by first | rfl | rfl)) rfl (by first | rfl | rfl), hh.keep (by repeat (first | exact keeps_nil | apply keeps_cons (by repeat (first | exact find_head | apply find_tail)) (by first  | rfl) | exact keeps_self | apply keeps_mv))⟩ | refine ⟨(⟨s.i + 1, mput s.I0 (ek ecp ecv) (.int .i64 (((inC false (log.take s.i) (ek ecp ecv) : Nat) : Int) + 1)), s.I1, s.O0, s.O1⟩ : TS), (by simp only; omega), (hS.in0 he hin hb0), hl.addE (t := 17) (hl.addE (t := 2) (hl.addE (t := 3) (hl.addE (t := 15) (hl.addE (t := 16) (hl.nil) rfl (by first | rfl | rfl)) rfl (by first | rfl | rfl)) rfl (by first | rfl | rfl)) rfl (by first | rfl | rfl)) rfl (by first | rfl | rfl), hh.keep (by repeat (first | exact keeps_nil | apply keeps_cons (by repeat (first | exact find_head | apply find_tail)) (by first  | rfl) | exact keeps_self | apply keeps_mv))⟩ | refine ⟨(⟨s.i + 1, s.I0, mput s.I1 (ek ecp ecv) (.int .i64 (((inC true (log.take s.i) (ek ecp ecv) : Nat) : Int) + 1)), s.O0, s.O1⟩ : TS), (by simp only; omega), (hS.in1 he hin hb1), hl.addE (t := 17) (hl.addE (t := 2) (hl.addE (t := 3) (hl.addE (t := 15) (hl.addE (t := 16) (hl.nil) rfl (by first | rfl | rfl)) rfl (by first | rfl | rfl)) rfl (by first | rfl | rfl)) rfl (by first | rfl | rfl)) rfl (by first | rfl | rfl), hh.keep (by repeat (first | exact keeps_nil | apply keeps_cons (by repeat (first | exact find_head | apply find_tail)) (by first  | rfl) | exact keeps_self | apply keeps_mv))⟩ | refine ⟨(⟨s.i + 1, s.I0, s.I1, mput s.O0 (ek erp erv) (.int .i64 (((ouC false (log.take s.i) (ek erp erv) : Nat) : Int) + 1)), s.O1⟩ : TS), (by simp only; omega), (hS.ou0 he hou hb0), hl.addE (t := 17) (hl.addE (t := 2) (hl.addE (t := 3) (hl.addE (t := 15) (hl.addE (t := 16) (hl.nil) rfl (by first | rfl | rfl)) rfl (by first | rfl | rfl)) rfl (by first | rfl | rfl)) rfl (by first | rfl | rfl)) rfl (by first | rfl | rfl), hh.keep (by repeat (first | exact keeps_nil | apply keeps_cons (by repeat (first | exact find_head | apply find_tail)) (by first  | rfl) | exact keeps_self | apply keeps_mv))⟩ | refine ⟨(⟨s.i + 1, s.I0, s.I1, s.O0, mput s.O1 (ek erp erv) (.int .i64 (((ouC true (log.take s.i) (ek erp erv) : Nat) : Int) + 1))⟩ : TS), (by simp only; omega), (hS.ou1 he hou hb1), hl.addE (t := 17) (hl.addE (t := 2) (hl.addE (t := 3) (hl.addE (t := 15) (hl.addE (t := 16) (hl.nil) rfl (by first | rfl | rfl)) rfl (by first | rfl | rfl)) rfl (by first | rfl | rfl)) rfl (by first | rfl | rfl)) rfl (by first | rfl | rfl), hh.keep (by repeat (first | exact keeps_nil | apply keeps_cons (by repeat (first | exact find_head | apply find_tail)) (by first  | rfl) | exact keeps_self | apply keeps_mv))⟩
            · intro hc3
              try simp only [decide_eq_true_eq, decide_eq_false_iff_not, Bool.not_eq_true', Bool.not_eq_false', Bool.not_eq_true, Bool.not_eq_false, Bool.and_eq_true, Bool.or_eq_true, Bool.and_eq_false_iff, Bool.or_eq_false_iff, Bool.not_not, ne_eq, Int.not_lt, Int.not_le, Decidable.not_not, beq_iff_eq, bne_iff_ne] at hc3
              have hsk : ¬ (er = true ∧ eck ≠ 6 ∧ (era = 0 ∨ era = 1)) := fun z => (by rcases z.2.2 with q | q; exact hc2 q; exact hc3 q)
              refine wp_skip ?_
              refine blk_normal ?_
              refine blk_normal ?_
              refine then_normal ?_
              refine c_region ?_
              first | refine wl (wl_val hl rfl trivial (r_add hl rfl rfl (by simp only [Fits]; omega)) ?_) | refine wl (wl_val hl rfl trivial (r_addW hl rfl rfl) ?_)
              clear hl a; intro a hl
              refine wl (wl_val hl rfl trivial (r_move hl rfl) ?_)
              clear hl a; intro a hl
              refine w_nil ?_
              have hl2 := hl.add (t := 2) (hl.add (t := 3) (hl.add (t := 15) (hl.add (t := 16) (hl.add (t := 17) (hl.nil) rfl) rfl) rfl) rfl) rfl; clear hl; have hl := hl2; clear hl2
              refine then_normal ?_
              first | refine ⟨(⟨s.i + 1, s.I0, s.I1, s.O0, s.O1⟩ : TS), (by simp only; omega), (hS.skip he hsk), hl.addE (t := 17) (hl.addE (t := 2) (hl.addE (t := 3) (hl.addE (t := 15) (hl.addE (t := 16) (hl.nil) rfl (by first | rfl | rfl)) rfl (by first | rfl | rfl)) rfl (by first | rfl | rfl)) rfl (by first | rfl | rfl)) rfl (by first | rfl | rfl), hh.keep (by repeat (first | exact keeps_nil | apply keeps_cons (by repeat (first | exact find_head | apply find_tail)) (by first  | rfl) | exact keeps_self | apply keeps_mv))⟩ | refine ⟨(⟨s.i + 1, mput s.I0 (ek ecp ecv) (.int .i64 (((inC false (log.take s.i) (ek ecp ecv) : Nat) : Int) + 1)), s.I1, s.O0, s.O1⟩ : TS), (by simp only; omega), (hS.in0 he hin hb0), hl.addE (t := 17) (hl.addE (t := 2) (hl.addE (t := 3) (hl.addE (t := 15) (hl.addE (t := 16) (hl.nil) rfl (by first | rfl | rfl)) rfl (by first | rfl | rfl)) rfl (by first | rfl | rfl)) rfl (by first | rfl | rfl)) rfl (by first | rfl | rfl), hh.keep (by repeat (first | exact keeps_nil | apply keeps_cons (by repeat (first | exact find_head | apply find_tail)) (by first  | rfl) | exact keeps_self | apply keeps_mv))⟩ | refine ⟨(⟨s.i + 1, s.I0, mput s.I1 (ek ecp ecv) (.int .i64 (((inC true (log.take s.i) (ek ecp ecv) : Nat) : Int) + 1)), s.O0, s.O1⟩ : TS), (by simp only; omega), (hS.in1 he hin hb1), hl.addE (t := 17) (hl.addE (t := 2) (hl.addE (t := 3) (hl.addE (t := 15) (hl.addE (t := 16) (hl.nil) rfl (by first | rfl | rfl)) rfl (by first | rfl | rfl)) rfl (by first | rfl | rfl)) rfl (by first | rfl | rfl)) rfl (by first | rfl | rfl), hh.keep (by repeat (first | exact keeps_nil | apply keeps_cons (by repeat (first | exact find_head | apply find_tail)) (by first  | rfl) | exact keeps_self | apply keeps_mv))⟩ | refine ⟨(⟨s.i + 1, s.I0, s.I1, mput s.O0 (ek erp erv) (.int .i64 (((ouC false (log.take s.i) (ek erp erv) : Nat) : Int) + 1)), s.O1⟩ : TS), (by simp only; omega), (hS.ou0 he hou hb0), hl.addE (t := 17) (hl.addE (t := 2) (hl.addE (t := 3) (hl.addE (t := 15) (hl.addE (t := 16) (hl.nil) rfl (by first | rfl | rfl)) rfl (by first | rfl | rfl)) rfl (by first | rfl | rfl)) rfl (by first | rfl | rfl)) rfl (by first | rfl | rfl), hh.keep (by repeat (first | exact keeps_nil | apply keeps_cons (by repeat (first | exact find_head | apply find_tail)) (by first  | rfl) | exact keeps_self | apply keeps_mv))⟩ | refine ⟨(⟨s.i + 1, s.I0, s.I1, s.O0, mput s.O1 (ek erp erv) (.int .i64 (((ouC true (log.take s.i) (ek erp erv) : Nat) : Int) + 1))⟩ : TS), (by simp only; omega), (hS.ou1 he hou hb1), hl.addE (t := 17) (hl.addE (t := 2) (hl.addE (t := 3) (hl.addE (t := 15) (hl.addE (t := 16) (hl.nil) rfl (by first | rfl | rfl)) rfl (by first | rfl | rfl)) rfl (by first | rfl | rfl)) rfl (by first | rfl | rfl)) rfl (by first | rfl | rfl), hh.keep (by repeat (first | exact keeps_nil | apply keeps_cons (by repeat (first | exact find_head | apply find_tail)) (by first  | rfl) | exact keeps_self | apply keeps_mv))⟩
    ·
      skip
      have hb0 : boxOf eck = false := decide_eq_false hbx
      first | rw [show decide (eck ≥ 4) = false from hb0] at hl | rw [show decide ((4 : Int) ≤ eck) = false from hb0] at hl
      have gI := hS.I0.val (ek ecp ecv); have gI2 := hS.I0.val2 (ek ecp ecv); have gO := hS.O0.val (ek erp erv); have gO2 := hS.O0.val2 (ek erp erv)
      have bI := Nat.le_trans (inC_le false (log.take s.i) (ek ecp ecv)) (Nat.le_trans (List.length_take_le _ _) hsi)
      have bO := Nat.le_trans (ouC_le false (log.take s.i) (ek erp erv)) (Nat.le_trans (List.length_take_le _ _) hsi)
      
      refine then_normal ?_
      refine wp_block ?_
      refine c_seq ?_
      refine c_region ?_
      refine wl (wl_val hl rfl trivial (r_field hl rfl fld62_1) ?_)
      clear hl a; intro a hl
      refine wl (w_load hl hh rfl trivial one4 rfl (by repeat (first | exact find_head | apply find_tail)) (by first | rfl) ?_)
      clear hl a; intro a hl
      refine wl (wl_val hl rfl trivial (r_not hl rfl) ?_)
      clear hl a; intro a hl
      refine wl (wl_val hl rfl trivial (r_move hl rfl) ?_)
      clear hl a; intro a hl
      refine sl_split (t := 29) hl rfl ?_ ?_
      · intro hg2; clear hl; intro hl
        try simp only [decide_eq_true_eq, decide_eq_false_iff_not, Bool.not_eq_true', Bool.not_eq_false', Bool.not_eq_true, Bool.not_eq_false, Bool.and_eq_true, Bool.or_eq_true, Bool.and_eq_false_iff, Bool.or_eq_false_iff, Bool.not_not, ne_eq, Int.not_lt, Int.not_le, Decidable.not_not, beq_iff_eq, bne_iff_ne] at hg2
        refine wl (wl_skip hl rfl ⟨_, _, rfl, rfl, rfl⟩ ?_)
        clear hl a; intro a hl
        refine wl (wl_skip hl rfl ⟨_, _, rfl, rfl, rfl⟩ ?_)
        clear hl a; intro a hl
        refine wl (wl_skip hl rfl ⟨_, _, rfl, rfl, rfl⟩ ?_)
        clear hl a; intro a hl
        refine wl (wl_skip hl rfl ⟨_, _, rfl, rfl, rfl⟩ ?_)
        clear hl a; intro a hl
        refine wl (wl_val hl rfl trivial (r_pickT hl rfl rfl) ?_)
        clear hl a; intro a hl
        refine wl (wl_val hl rfl trivial (r_assign hl rfl) ?_)
        clear hl a; intro a hl
        refine w_nil ?_
        have hl2 := hl.add (t := 2) (hl.add (t := 3) (hl.add (t := 5) (hl.add (t := 6) (hl.add (t := 15) (hl.add (t := 16) (hl.add (t := 17) (hl.add (t := 25) (hl.nil) rfl) rfl) rfl) rfl) rfl) rfl) rfl) rfl; clear hl; have hl := hl2; clear hl2
        refine then_normal ?_
        refine c_condT hl rfl ?_
        have hsk : ¬ (er = true ∧ eck ≠ 6 ∧ (era = 0 ∨ era = 1)) := by first | exact fun z => Bool.noConfusion (hg1.symm.trans z.1) | exact fun z => Bool.noConfusion (hg2.symm.trans z.1) | exact fun z => Bool.noConfusion (hg3.symm.trans z.1) | exact fun z => z.2.1 hc1
        refine wp_skip ?_
        refine blk_normal ?_
        refine blk_normal ?_
        refine then_normal ?_
        refine c_region ?_
        first | refine wl (wl_val hl rfl trivial (r_add hl rfl rfl (by simp only [Fits]; omega)) ?_) | refine wl (wl_val hl rfl trivial (r_addW hl rfl rfl) ?_)
        clear hl a; intro a hl
        refine wl (wl_val hl rfl trivial (r_move hl rfl) ?_)
        clear hl a; intro a hl
        refine w_nil ?_
        have hl2 := hl.add (t := 2) (hl.add (t := 3) (hl.add (t := 15) (hl.add (t := 16) (hl.add (t := 17) (hl.nil) rfl) rfl) rfl) rfl) rfl; clear hl; have hl := hl2; clear hl2
        refine then_normal ?_
        first | refine ⟨(⟨s.i + 1, s.I0, s.I1, s.O0, s.O1⟩ : TS), (by simp only; omega), (hS.skip he hsk), hl.addE (t := 17) (hl.addE (t := 2) (hl.addE (t := 3) (hl.addE (t := 15) (hl.addE (t := 16) (hl.nil) rfl (by first | rfl | rfl)) rfl (by first | rfl | rfl)) rfl (by first | rfl | rfl)) rfl (by first | rfl | rfl)) rfl (by first | rfl | rfl), hh.keep (by repeat (first | exact keeps_nil | apply keeps_cons (by repeat (first | exact find_head | apply find_tail)) (by first  | rfl) | exact keeps_self | apply keeps_mv))⟩ | refine ⟨(⟨s.i + 1, mput s.I0 (ek ecp ecv) (.int .i64 (((inC false (log.take s.i) (ek ecp ecv) : Nat) : Int) + 1)), s.I1, s.O0, s.O1⟩ : TS), (by simp only; omega), (hS.in0 he hin hb0), hl.addE (t := 17) (hl.addE (t := 2) (hl.addE (t := 3) (hl.addE (t := 15) (hl.addE (t := 16) (hl.nil) rfl (by first | rfl | rfl)) rfl (by first | rfl | rfl)) rfl (by first | rfl | rfl)) rfl (by first | rfl | rfl)) rfl (by first | rfl | rfl), hh.keep (by repeat (first | exact keeps_nil | apply keeps_cons (by repeat (first | exact find_head | apply find_tail)) (by first  | rfl) | exact keeps_self | apply keeps_mv))⟩ | refine ⟨(⟨s.i + 1, s.I0, mput s.I1 (ek ecp ecv) (.int .i64 (((inC true (log.take s.i) (ek ecp ecv) : Nat) : Int) + 1)), s.O0, s.O1⟩ : TS), (by simp only; omega), (hS.in1 he hin hb1), hl.addE (t := 17) (hl.addE (t := 2) (hl.addE (t := 3) (hl.addE (t := 15) (hl.addE (t := 16) (hl.nil) rfl (by first | rfl | rfl)) rfl (by first | rfl | rfl)) rfl (by first | rfl | rfl)) rfl (by first | rfl | rfl)) rfl (by first | rfl | rfl), hh.keep (by repeat (first | exact keeps_nil | apply keeps_cons (by repeat (first | exact find_head | apply find_tail)) (by first  | rfl) | exact keeps_self | apply keeps_mv))⟩ | refine ⟨(⟨s.i + 1, s.I0, s.I1, mput s.O0 (ek erp erv) (.int .i64 (((ouC false (log.take s.i) (ek erp erv) : Nat) : Int) + 1)), s.O1⟩ : TS), (by simp only; omega), (hS.ou0 he hou hb0), hl.addE (t := 17) (hl.addE (t := 2) (hl.addE (t := 3) (hl.addE (t := 15) (hl.addE (t := 16) (hl.nil) rfl (by first | rfl | rfl)) rfl (by first | rfl | rfl)) rfl (by first | rfl | rfl)) rfl (by first | rfl | rfl)) rfl (by first | rfl | rfl), hh.keep (by repeat (first | exact keeps_nil | apply keeps_cons (by repeat (first | exact find_head | apply find_tail)) (by first  | rfl) | exact keeps_self | apply keeps_mv))⟩ | refine ⟨(⟨s.i + 1, s.I0, s.I1, s.O0, mput s.O1 (ek erp erv) (.int .i64 (((ouC true (log.take s.i) (ek erp erv) : Nat) : Int) + 1))⟩ : TS), (by simp only; omega), (hS.ou1 he hou hb1), hl.addE (t := 17) (hl.addE (t := 2) (hl.addE (t := 3) (hl.addE (t := 15) (hl.addE (t := 16) (hl.nil) rfl (by first | rfl | rfl)) rfl (by first | rfl | rfl)) rfl (by first | rfl | rfl)) rfl (by first | rfl | rfl)) rfl (by first | rfl | rfl), hh.keep (by repeat (first | exact keeps_nil | apply keeps_cons (by repeat (first | exact find_head | apply find_tail)) (by first  | rfl) | exact keeps_self | apply keeps_mv))⟩
      · intro hg2; clear hl; intro hl
        try simp only [decide_eq_true_eq, decide_eq_false_iff_not, Bool.not_eq_true', Bool.not_eq_false', Bool.not_eq_true, Bool.not_eq_false, Bool.and_eq_true, Bool.or_eq_true, Bool.and_eq_false_iff, Bool.or_eq_false_iff, Bool.not_not, ne_eq, Int.not_lt, Int.not_le, Decidable.not_not, beq_iff_eq, bne_iff_ne] at hg2
        refine wl (wl_val hl rfl ⟨_, _, rfl, rfl, rfl⟩ (r_field hl rfl fld62_2) ?_)
        clear hl a; intro a hl
        refine wl (wl_val hl rfl ⟨_, _, rfl, rfl, rfl⟩ (r_field hl rfl fld44_0) ?_)
        clear hl a; intro a hl
        refine wl (w_load hl hh rfl ⟨_, _, rfl, rfl, rfl⟩ one30 rfl (by repeat (first | exact find_head | apply find_tail)) (by first | rfl) ?_)
        clear hl a; intro a hl
        refine wl (wl_val hl rfl ⟨_, _, rfl, rfl, rfl⟩ (r_eql hl rfl rfl) ?_)
        clear hl a; intro a hl
        refine wl (wl_val hl rfl trivial (r_pickF hl rfl rfl) ?_)
        clear hl a; intro a hl
        refine wl (wl_val hl rfl trivial (r_assign hl rfl) ?_)
        clear hl a; intro a hl
        refine w_nil ?_
        have hl2 := hl.add (t := 2) (hl.add (t := 3) (hl.add (t := 5) (hl.add (t := 6) (hl.add (t := 15) (hl.add (t := 16) (hl.add (t := 17) (hl.add (t := 25) (hl.nil) rfl) rfl) rfl) rfl) rfl) rfl) rfl) rfl; clear hl; have hl := hl2; clear hl2
        refine then_normal ?_
        refine c_cond hl rfl ?_ ?_
        · intro hc1
          try simp only [decide_eq_true_eq, decide_eq_false_iff_not, Bool.not_eq_true', Bool.not_eq_false', Bool.not_eq_true, Bool.not_eq_false, Bool.and_eq_true, Bool.or_eq_true, Bool.and_eq_false_iff, Bool.or_eq_false_iff, Bool.not_not, ne_eq, Int.not_lt, Int.not_le, Decidable.not_not, beq_iff_eq, bne_iff_ne] at hc1
          have hsk : ¬ (er = true ∧ eck ≠ 6 ∧ (era = 0 ∨ era = 1)) := by first | exact fun z => Bool.noConfusion (hg1.symm.trans z.1) | exact fun z => Bool.noConfusion (hg2.symm.trans z.1) | exact fun z => Bool.noConfusion (hg3.symm.trans z.1) | exact fun z => z.2.1 hc1
          refine wp_skip ?_
          refine blk_normal ?_
          refine blk_normal ?_
          refine then_normal ?_
          refine c_region ?_
          first | refine wl (wl_val hl rfl trivial (r_add hl rfl rfl (by simp only [Fits]; omega)) ?_) | refine wl (wl_val hl rfl trivial (r_addW hl rfl rfl) ?_)
          clear hl a; intro a hl
          refine wl (wl_val hl rfl trivial (r_move hl rfl) ?_)
          clear hl a; intro a hl
          refine w_nil ?_
          have hl2 := hl.add (t := 2) (hl.add (t := 3) (hl.add (t := 15) (hl.add (t := 16) (hl.add (t := 17) (hl.nil) rfl) rfl) rfl) rfl) rfl; clear hl; have hl := hl2; clear hl2
          refine then_normal ?_
          first | refine ⟨(⟨s.i + 1, s.I0, s.I1, s.O0, s.O1⟩ : TS), (by simp only; omega), (hS.skip he hsk), hl.addE (t := 17) (hl.addE (t := 2) (hl.addE (t := 3) (hl.addE (t := 15) (hl.addE (t := 16) (hl.nil) rfl (by first | rfl | rfl)) rfl (by first | rfl | rfl)) rfl (by first | rfl | rfl)) rfl (by first | rfl | rfl)) rfl (by first | rfl | rfl), hh.keep (by repeat (first | exact keeps_nil | apply keeps_cons (by repeat (first | exact find_head | apply find_tail)) (by first  | rfl) | exact keeps_self | apply keeps_mv))⟩ | refine ⟨(⟨s.i + 1, mput s.I0 (ek ecp ecv) (.int .i64 (((inC false (log.take s.i) (ek ecp ecv) : Nat) : Int) + 1)), s.I1, s.O0, s.O1⟩ : TS), (by simp only; omega), (hS.in0 he hin hb0), hl.addE (t := 17) (hl.addE (t := 2) (hl.addE (t := 3) (hl.addE (t := 15) (hl.addE (t := 16) (hl.nil) rfl (by first | rfl | rfl)) rfl (by first | rfl | rfl)) rfl (by first | rfl | rfl)) rfl (by first | rfl | rfl)) rfl (by first | rfl | rfl), hh.keep (by repeat (first | exact keeps_nil | apply keeps_cons (by repeat (first | exact find_head | apply find_tail)) (by first  | rfl) | exact keeps_self | apply keeps_mv))⟩ | refine ⟨(⟨s.i + 1, s.I0, mput s.I1 (ek ecp ecv) (.int .i64 (((inC true (log.take s.i) (ek ecp ecv) : Nat) : Int) + 1)), s.O0, s.O1⟩ : TS), (by simp only; omega), (hS.in1 he hin hb1), hl.addE (t := 17) (hl.addE (t := 2) (hl.addE (t := 3) (hl.addE (t := 15) (hl.addE (t := 16) (hl.nil) rfl (by first | rfl | rfl)) rfl (by first | rfl | rfl)) rfl (by first | rfl | rfl)) rfl (by first | rfl | rfl)) rfl (by first | rfl | rfl), hh.keep (by repeat (first | exact keeps_nil | apply keeps_cons (by repeat (first | exact find_head | apply find_tail)) (by first  | rfl) | exact keeps_self | apply keeps_mv))⟩ | refine ⟨(⟨s.i + 1, s.I0, s.I1, mput s.O0 (ek erp erv) (.int .i64 (((ouC false (log.take s.i) (ek erp erv) : Nat) : Int) + 1)), s.O1⟩ : TS), (by simp only; omega), (hS.ou0 he hou hb0), hl.addE (t := 17) (hl.addE (t := 2) (hl.addE (t := 3) (hl.addE (t := 15) (hl.addE (t := 16) (hl.nil) rfl (by first | rfl | rfl)) rfl (by first | rfl | rfl)) rfl (by first | rfl | rfl)) rfl (by first | rfl | rfl)) rfl (by first | rfl | rfl), hh.keep (by repeat (first | exact keeps_nil | apply keeps_cons (by repeat (first | exact find_head | apply find_tail)) (by first  | rfl) | exact keeps_self | apply keeps_mv))⟩ | refine ⟨(⟨s.i + 1, s.I0, s.I1, s.O0, mput s.O1 (ek erp erv) (.int .i64 (((ouC true (log.take s.i) (ek erp erv) : Nat) : Int) + 1))⟩ : TS), (by simp only; omega), (hS.ou1 he hou hb1), hl.addE (t := 17) (hl.addE (t := 2) (hl.addE (t := 3) (hl.addE (t := 15) (hl.addE (t := 16) (hl.nil) rfl (by first | rfl | rfl)) rfl (by first | rfl | rfl)) rfl (by first | rfl | rfl)) rfl (by first | rfl | rfl)) rfl (by first | rfl | rfl), hh.keep (by repeat (first | exact keeps_nil | apply keeps_cons (by repeat (first | exact find_head | apply find_tail)) (by first  | rfl) | exact keeps_self | apply keeps_mv))⟩
        · intro hc1
          try simp only [decide_eq_true_eq, decide_eq_false_iff_not, Bool.not_eq_true', Bool.not_eq_false', Bool.not_eq_true, Bool.not_eq_false, Bool.and_eq_true, Bool.or_eq_true, Bool.and_eq_false_iff, Bool.or_eq_false_iff, Bool.not_not, ne_eq, Int.not_lt, Int.not_le, Decidable.not_not, beq_iff_eq, bne_iff_ne] at hc1
          refine c_seq ?_
          refine c_region ?_
          refine wl (wl_val hl rfl trivial (r_field hl rfl fld62_3) ?_)
          clear hl a; intro a hl
          refine wl (wl_val hl rfl trivial (r_field hl rfl fld34_0) ?_)
          clear hl a; intro a hl
          refine wl (w_load hl hh rfl trivial one31 rfl (by repeat (first | exact find_head | apply find_tail)) (by first | rfl) ?_)
          clear hl a; intro a hl
          refine wl (wl_val hl rfl trivial (r_eql hl rfl rfl) ?_)
          clear hl a; intro a hl
          refine wl (wl_val hl rfl trivial (r_assign hl rfl) ?_)
          clear hl a; intro a hl
          refine w_nil ?_
          have hl2 := hl.add (t := 2) (hl.add (t := 3) (hl.add (t := 5) (hl.add (t := 6) (hl.add (t := 15) (hl.add (t := 16) (hl.add (t := 17) (hl.add (t := 35) (hl.nil) rfl) rfl) rfl) rfl) rfl) rfl) rfl) rfl; clear hl; have hl := hl2; clear hl2
          refine then_normal ?_
          refine c_cond hl rfl ?_ ?_
          · intro hc2
            try simp only [decide_eq_true_eq, decide_eq_false_iff_not, Bool.not_eq_true', Bool.not_eq_false', Bool.not_eq_true, Bool.not_eq_false, Bool.and_eq_true, Bool.or_eq_true, Bool.and_eq_false_iff, Bool.or_eq_false_iff, Bool.not_not, ne_eq, Int.not_lt, Int.not_le, Decidable.not_not, beq_iff_eq, bne_iff_ne] at hc2
            have hin : er = true ∧ eck ≠ 6 ∧ era = 0 := ⟨by first | exact hg1 | exact hg2 | exact hg3, hc1, hc2⟩
            refine c_draw [(k5, C [.int .i64 (et : Int), .bool er, .int .u8 eck, .int .u64 ecv, .int .u64 ecp, .int .u8 era, .int .u64 erv, .int .u64 erp] 62), (k7, MO kBool (mput (mput [] false (.map (some k8))) true (.map (some k9))))] [14] mixed hh ?_
            clear hh w; intro w hh
            have hM : Mem [(k5, C [.int .i64 (et : Int), .bool er, .int .u8 eck, .int .u64 ecv, .int .u64 ecp, .int .u8 era, .int .u64 erv, .int .u64 erp] 62), (k7, MO kBool (mput (mput [] false (.map (some k8))) true (.map (some k9))))] w := (by (repeat (first | exact Mem.nil | refine Mem.cons hh.mem (by (repeat (first | exact find_head | apply find_tail)); done) ?_ | refine Mem.consR hh (by assumption) (by simp) ?_ | fail)); done)
            refine d_take (i := 0) hl rfl (by kernel_rfl) (by kernel_rfl) (by kernel_rfl) (by kernel_rfl) (by kernel_rfl) rfl trivial (fun _ _ _ h => h) hM (fun w hC => r_move hl rfl) rfl ?_
            clear hl a; intro a hl
            refine d_take (i := 1) hl rfl (by kernel_rfl) (by kernel_rfl) (by kernel_rfl) (by kernel_rfl) (by kernel_rfl) rfl trivial (fun _ _ _ h => h) hM (fun w hC => r_move hl rfl) rfl ?_
            clear hl a; intro a hl
            refine d_take (i := 2) hl rfl (by kernel_rfl) (by kernel_rfl) (by kernel_rfl) (by kernel_rfl) (by kernel_rfl) rfl trivial (fun _ _ _ h => h) hM (fun w hC => r_lookup (keyBool Tryf.underlying4) Tryf.underlying75 zero79 hl rfl rfl (hC _ _ (Find.mem (by repeat (first | exact find_head | apply find_tail))))) rfl ?_
            clear hl a; intro a hl
            first | rw [om_f] at hl | rw [om_t] at hl | rw [gI2] at hl | rw [gI] at hl
            refine d_take (i := 3) hl rfl (by kernel_rfl) (by kernel_rfl) (by kernel_rfl) (by kernel_rfl) (by kernel_rfl) rfl trivial (fun _ _ _ h => h) hM (fun w hC => r_field hl rfl fld62_2) rfl ?_
            clear hl a; intro a hl
            refine d_take (i := 4) hl rfl (by kernel_rfl) (by kernel_rfl) (by kernel_rfl) (by kernel_rfl) (by kernel_rfl) rfl trivial (fun _ _ _ h => h) hM (fun w hC => r_field hl rfl fld44_2) rfl ?_
            clear hl a; intro a hl
            refine d_take (i := 5) hl rfl (by kernel_rfl) (by kernel_rfl) (by kernel_rfl) (by kernel_rfl) (by kernel_rfl) rfl trivial (fun _ _ _ h => h) hM (fun w hC => r_loadC hl rfl one32 hC (by repeat (first | exact find_head | apply find_tail)) (by first | rfl)) rfl ?_
            clear hl a; intro a hl
            refine d_take (i := 6) hl rfl (by kernel_rfl) (by kernel_rfl) (by kernel_rfl) (by kernel_rfl) (by kernel_rfl) rfl trivial (fun _ _ _ h => h) hM (fun w hC => r_field hl rfl fld62_2) rfl ?_
            clear hl a; intro a hl
            refine d_take (i := 7) hl rfl (by kernel_rfl) (by kernel_rfl) (by kernel_rfl) (by kernel_rfl) (by kernel_rfl) rfl trivial (fun _ _ _ h => h) hM (fun w hC => r_field hl rfl fld44_1) rfl ?_
            clear hl a; intro a hl
            refine d_take (i := 8) hl rfl (by kernel_rfl) (by kernel_rfl) (by kernel_rfl) (by kernel_rfl) (by kernel_rfl) rfl trivial (fun _ _ _ h => h) hM (fun w hC => r_loadC hl rfl one32 hC (by repeat (first | exact find_head | apply find_tail)) (by first | rfl)) rfl ?_
            clear hl a; intro a hl
            refine d_take (i := 9) hl rfl (by kernel_rfl) (by kernel_rfl) (by kernel_rfl) (by kernel_rfl) (by kernel_rfl) rfl trivial (fun _ _ _ h => h) hM (fun w hC => r_build hl rfl zero81 bld81 (by simp only [fillL, setL, List.getElem?_cons_zero, List.getElem?_cons_succ, Value.cells, List.take_zero, List.take_succ_cons, List.take_nil, List.drop_zero, List.drop_succ_cons, List.drop_nil, List.length_cons, List.length_nil, List.cons_append, List.nil_append, List.append_nil, Nat.zero_add, Nat.add_zero, Nat.reduceAdd, Nat.reduceBEq, Nat.reduceEqDiff, Nat.ble, BEq.rfl, Bool.and_true, Bool.and_self, cond_true, beq_self_eq_true]; rfl)) rfl ?_
            clear hl a; intro a hl
            rw [ek_eq g2 g1] at hl
            refine d_two (i := 10) (j := 12) (by kernel_rfl) rfl rfl ?_ ?_
            ·
              try clear hM
              refine id (w_lookup key81 Tryf.underlying79 zero3 hl hh rfl trivial rfl rfl (by repeat (first | exact find_head | apply find_tail)) ?_)
              clear hl a; intro a hl
              first | rw [om_f] at hl | rw [om_t] at hl | rw [gI2] at hl | rw [gI] at hl
              have hM : Mem [(k5, C [.int .i64 (et : Int), .bool er, .int .u8 eck, .int .u64 ecv, .int .u64 ecp, .int .u8 era, .int .u64 erv, .int .u64 erp] 62), (k7, MO kBool (mput (mput [] false (.map (some k8))) true (.map (some k9))))] w := (by (repeat (first | exact Mem.nil | refine Mem.cons hh.mem (by (repeat (first | exact find_head | apply find_tail)); done) ?_ | refine Mem.consR hh (by assumption) (by simp) ?_ | fail)); done)
              refine d_step (fun _ => hM) ?_
              first | refine d_take (i := 11) hl rfl (by kernel_rfl) (by kernel_rfl) (by kernel_rfl) (by kernel_rfl) (by kernel_rfl) rfl trivial (fun _ _ _ h => h) hM (fun w hC => r_add hl rfl rfl (by simp only [Fits]; omega)) rfl ?_ | refine d_take (i := 11) hl rfl (by kernel_rfl) (by kernel_rfl) (by kernel_rfl) (by kernel_rfl) (by kernel_rfl) rfl trivial (fun _ _ _ h => h) hM (fun w hC => r_addW hl rfl rfl) rfl ?_
              clear hl a; intro a hl
              refine d_one (i := 12) (by kernel_rfl) rfl ?_
              try clear hM
              refine id (w_mapEntry key81 Tryf.underlying79 zero3 hl hh rfl trivial rfl rfl (by repeat (first | exact find_head | apply find_tail)) ?_)
              clear hl hh a w; intro i52 hi52 a w hl hh
              have hM : Mem [(k5, C [.int .i64 (et : Int), .bool er, .int .u8 eck, .int .u64 ecv, .int .u64 ecp, .int .u8 era, .int .u64 erv, .int .u64 erp] 62), (k7, MO kBool (mput (mput [] false (.map (some k8))) true (.map (some k9))))] w := (by (repeat (first | exact Mem.nil | refine Mem.cons hh.mem (by (repeat (first | exact find_head | apply find_tail)); done) ?_ | refine Mem.consR hh (by assumption) (by simp) ?_ | fail)); done)
              refine d_step (fun _ => hM) ?_
              refine d_take (i := 13) hl rfl (by kernel_rfl) (by kernel_rfl) (by kernel_rfl) (by kernel_rfl) (by kernel_rfl) rfl trivial (fun _ _ _ h => h) hM (fun w hC => r_extract hl rfl (by simp only [List.getElem?_toArray, List.getElem?_cons_zero, List.getElem?_cons_succ]; rfl)) rfl ?_
              clear hl a; intro a hl
              refine d_one (i := 14) (by kernel_rfl) rfl ?_
              try clear hM
              refine id (w_entryStore hi52 hl hh trivial rfl rfl rfl (by repeat (first | exact find_head | apply find_tail)) ?_)
              clear hh w; intro w hh; rw [mput_mput] at hh
              refine d_step (fun h => absurd h (by decide)) ?_
              refine d_done (by kernel_rfl) ?_
              try clear hM
              have hl2 := hl.add (t := 2) (hl.add (t := 3) (hl.add (t := 15) (hl.add (t := 16) (hl.add (t := 17) (hl.nil) rfl) rfl) rfl) rfl) rfl; clear hl; have hl := hl2; clear hl2
              refine blk_normal ?_
              refine blk_normal ?_
              refine then_normal ?_
              refine c_region ?_
              first | refine wl (wl_val hl rfl trivial (r_add hl rfl rfl (by simp only [Fits]; omega)) ?_) | refine wl (wl_val hl rfl trivial (r_addW hl rfl rfl) ?_)
              clear hl a; intro a hl
              refine wl (wl_val hl rfl trivial (r_move hl rfl) ?_)
              clear hl a; intro a hl
              refine w_nil ?_
              have hl2 := hl.add (t := 2) (hl.add (t := 3) (hl.add (t := 15) (hl.add (t := 16) (hl.add (t := 17) (hl.nil) rfl) rfl) rfl) rfl) rfl; clear hl; have hl := hl2; clear hl2
              refine then_normal ?_
              first | refine ⟨(⟨s.i + 1, s.I0, s.I1, s.O0, s.O1⟩ : TS), (by simp only; omega), (hS.skip he hsk), hl.addE (t := 17) (hl.addE (t := 2) (hl.addE (t := 3) (hl.addE (t := 15) (hl.addE (t := 16) (hl.nil) rfl (by first | rfl | rfl)) rfl (by first | rfl | rfl)) rfl (by first | rfl | rfl)) rfl (by first | rfl | rfl)) rfl (by first | rfl | rfl), hh.keep (by repeat (first | exact keeps_nil | apply keeps_cons (by repeat (first | exact find_head | apply find_tail)) (by first  | rfl) | exact keeps_self | apply keeps_mv))⟩ | refine ⟨(⟨s.i + 1, mput s.I0 (ek ecp ecv) (.int .i64 (((inC false (log.take s.i) (ek ecp ecv) : Nat) : Int) + 1)), s.I1, s.O0, s.O1⟩ : TS), (by simp only; omega), (hS.in0 he hin hb0), hl.addE (t := 17) (hl.addE (t := 2) (hl.addE (t := 3) (hl.addE (t := 15) (hl.addE (t := 16) (hl.nil) rfl (by first | rfl | rfl)) rfl (by first | rfl | rfl)) rfl (by first | rfl | rfl)) rfl (by first | rfl | rfl)) rfl (by first | rfl | rfl), hh.keep (by repeat (first | exact keeps_nil | apply keeps_cons (by repeat (first | exact find_head | apply find_tail)) (by first  | rfl) | exact keeps_self | apply keeps_mv))⟩ | refine ⟨(⟨s.i + 1, s.I0, mput s.I1 (ek ecp ecv) (.int .i64 (((inC true (log.take s.i) (ek ecp ecv) : Nat) : Int) + 1)), s.O0, s.O1⟩ : TS), (by simp only; omega), (hS.in1 he hin hb1), hl.addE (t := 17) (hl.addE (t := 2) (hl.addE (t := 3) (hl.addE (t := 15) (hl.addE (t := 16) (hl.nil) rfl (by first | rfl | rfl)) rfl (by first | rfl | rfl)) rfl (by first | rfl | rfl)) rfl (by first | rfl | rfl)) rfl (by first | rfl | rfl), hh.keep (by repeat (first | exact keeps_nil | apply keeps_cons (by repeat (first | exact find_head | apply find_tail)) (by first  | rfl) | exact keeps_self | apply keeps_mv))⟩ | refine ⟨(⟨s.i + 1, s.I0, s.I1, mput s.O0 (ek erp erv) (.int .i64 (((ouC false (log.take s.i) (ek erp erv) : Nat) : Int) + 1)), s.O1⟩ : TS), (by simp only; omega), (hS.ou0 he hou hb0), hl.addE (t := 17) (hl.addE (t := 2) (hl.addE (t := 3) (hl.addE (t := 15) (hl.addE (t := 16) (hl.nil) rfl (by first | rfl | rfl)) rfl (by first | rfl | rfl)) rfl (by first | rfl | rfl)) rfl (by first | rfl | rfl)) rfl (by first | rfl | rfl), hh.keep (by repeat (first | exact keeps_nil | apply keeps_cons (by repeat (first | exact find_head | apply find_tail)) (by first  | rfl) | exact keeps_self | apply keeps_mv))⟩ | refine ⟨(⟨s.i + 1, s.I0, s.I1, s.O0, mput s.O1 (ek erp erv) (.int .i64 (((ouC true (log.take s.i) (ek erp erv) : Nat) : Int) + 1))⟩ : TS), (by simp only; omega), (hS.ou1 he hou hb1), hl.addE (t := 17) (hl.addE (t := 2) (hl.addE (t := 3) (hl.addE (t := 15) (hl.addE (t := 16) (hl.nil) rfl (by first | rfl | rfl)) rfl (by first | rfl | rfl)) rfl (by first | rfl | rfl)) rfl (by first | rfl | rfl)) rfl (by first | rfl | rfl), hh.keep (by repeat (first | exact keeps_nil | apply keeps_cons (by repeat (first | exact find_head | apply find_tail)) (by first  | rfl) | exact keeps_self | apply keeps_mv))⟩
            ·
              try clear hM
              refine id (w_mapEntry key81 Tryf.underlying79 zero3 hl hh rfl trivial rfl rfl (by repeat (first | exact find_head | apply find_tail)) ?_)
              clear hl hh a w; intro i52 hi52 a w hl hh
              have hM : Mem [(k5, C [.int .i64 (et : Int), .bool er, .int .u8 eck, .int .u64 ecv, .int .u64 ecp, .int .u8 era, .int .u64 erv, .int .u64 erp] 62), (k7, MO kBool (mput (mput [] false (.map (some k8))) true (.map (some k9))))] w := (by (repeat (first | exact Mem.nil | refine Mem.cons hh.mem (by (repeat (first | exact find_head | apply find_tail)); done) ?_ | refine Mem.consR hh (by assumption) (by simp) ?_ | fail)); done)
              refine d_step (fun _ => hM) ?_
              refine d_take (i := 13) hl rfl (by kernel_rfl) (by kernel_rfl) (by kernel_rfl) (by kernel_rfl) (by kernel_rfl) rfl trivial (fun _ _ _ h => h) hM (fun w hC => r_extract hl rfl (by simp only [List.getElem?_toArray, List.getElem?_cons_zero, List.getElem?_cons_succ]; rfl)) rfl ?_
              clear hl a; intro a hl
              refine d_one (i := 10) (by kernel_rfl) rfl ?_
              try clear hM
              refine id (w_lookup key81 Tryf.underlying79 zero3 hl hh rfl trivial rfl rfl (by repeat (first | exact find_head | apply find_tail)) ?_)
              clear hl a; intro a hl
              first | rw [om_f] at hl | rw [om_t] at hl | rw [gI2] at hl | rw [gI] at hl
              have hM : Mem [(k5, C [.int .i64 (et : Int), .bool er, .int .u8 eck, .int .u64 ecv, .int .u64 ecp, .int .u8 era, .int .u64 erv, .int .u64 erp] 62), (k7, MO kBool (mput (mput [] false (.map (some k8))) true (.map (some k9))))] w := (by (repeat (first | exact Mem.nil | refine Mem.cons hh.mem (by (repeat (first | exact find_head | apply find_tail)); done) ?_ | refine Mem.consR hh (by assumption) (by simp) ?_ | fail)); done)
              refine d_step (fun _ => hM) ?_
              first | refine d_take (i := 11) hl rfl (by kernel_rfl) (by kernel_rfl) (by kernel_rfl) (by kernel_rfl) (by kernel_rfl) rfl trivial (fun _ _ _ h => h) hM (fun w hC => r_add hl rfl rfl (by simp only [Fits]; omega)) rfl ?_ | refine d_take (i := 11) hl rfl (by kernel_rfl) (by kernel_rfl) (by kernel_rfl) (by kernel_rfl) (by kernel_rfl) rfl trivial (fun _ _ _ h => h) hM (fun w hC => r_addW hl rfl rfl) rfl ?_
              clear hl a; intro a hl
              refine d_one (i := 14) (by kernel_rfl) rfl ?_
              try clear hM
              refine id (w_entryStore hi52 hl hh trivial rfl rfl rfl (by repeat (first | exact find_head | apply find_tail)) ?_)
              clear hh w; intro w hh; rw [mput_mput] at hh
              refine d_step (fun h => absurd h (by decide)) ?_
              refine d_done (by kernel_rfl) ?_
              try clear hM
              have hl2 := hl.add (t := 2) (hl.add (t := 3) (hl.add (t := 15) (hl.add (t := 16) (hl.add (t := 17) (hl.nil) rfl) rfl) rfl) rfl) rfl; clear hl; have hl := hl2; clear hl2
              refine blk_normal ?_
              refine blk_normal ?_
              refine then_normal ?_
              refine c_region ?_
              first | refine wl (wl_val hl rfl trivial (r_add hl rfl rfl (by simp only [Fits]; omega)) ?_) | refine wl (wl_val hl rfl trivial (r_addW hl rfl rfl) ?_)
              clear hl a; intro a hl
              refine wl (wl_val hl rfl trivial (r_move hl rfl) ?_)
              clear hl a; intro a hl
              refine w_nil ?_
              have hl2 := hl.add (t := 2) (hl.add (t := 3) (hl.add (t := 15) (hl.add (t := 16) (hl.add (t := 17) (hl.nil) rfl) rfl) rfl) rfl) rfl; clear hl; have hl := hl2; clear hl2
              refine then_normal ?_
              first | refine ⟨(⟨s.i + 1, s.I0, s.I1, s.O0, s.O1⟩ : TS), (by simp only; omega), (hS.skip he hsk), hl.addE (t := 17) (hl.addE (t := 2) (hl.addE (t := 3) (hl.addE (t := 15) (hl.addE (t := 16) (hl.nil) rfl (by first | rfl | rfl)) rfl (by first | rfl | rfl)) rfl (by first | rfl | rfl)) rfl (by first | rfl | rfl)) rfl (by first | rfl | rfl), hh.keep (by repeat (first | exact keeps_nil | apply keeps_cons (by repeat (first | exact find_head | apply find_tail)) (by first  | rfl) | exact keeps_self | apply keeps_mv))⟩ | refine ⟨(⟨s.i + 1, mput s.I0 (ek ecp ecv) (.int .i64 (((inC false (log.take s.i) (ek ecp ecv) : Nat) : Int) + 1)), s.I1, s.O0, s.O1⟩ : TS), (by simp only; omega), (hS.in0 he hin hb0), hl.addE (t := 17) (hl.addE (t := 2) (hl.addE (t := 3) (hl.addE (t := 15) (hl.addE (t := 16) (hl.nil) rfl (by first | rfl | rfl)) rfl (by first | rfl | rfl)) rfl (by first | rfl | rfl)) rfl (by first | rfl | rfl)) rfl (by first | rfl | rfl), hh.keep (by repeat (first | exact keeps_nil | apply keeps_cons (by repeat (first | exact find_head | apply find_tail)) (by first  | rfl) | exact keeps_self | apply keeps_mv))⟩ | refine ⟨(⟨s.i + 1, s.I0, mput s.I1 (ek ecp ecv) (.int .i64 (((inC true (log.take s.i) (ek ecp ecv) : Nat) : Int) + 1)), s.O0, s.O1⟩ : TS), (by simp only; omega), (hS.in1 he hin hb1), hl.addE (t := 17) (hl.addE (t := 2) (hl.addE (t := 3) (hl.addE (t := 15) (hl.addE (t := 16) (hl.nil) rfl (by first | rfl | rfl)) rfl (by first | rfl | rfl)) rfl (by first | rfl | rfl)) rfl (by first | rfl | rfl)) rfl (by first | rfl | rfl), hh.keep (by repeat (first | exact keeps_nil | apply keeps_cons (by repeat (first | exact find_head | apply find_tail)) (by first  | rfl) | exact keeps_self | apply keeps_mv))⟩ | refine ⟨(⟨s.i + 1, s.I0, s.I1, mput s.O0 (ek erp erv) (.int .i64 (((ouC false (log.take s.i) (ek erp erv) : Nat) : Int) + 1)), s.O1⟩ : TS), (by simp only; omega), (hS.ou0 he hou hb0), hl.addE (t := 17) (hl.addE (t := 2) (hl.addE (t := 3) (hl.addE (t := 15) (hl.addE (t := 16) (hl.nil) rfl (by first | rfl | rfl)) rfl (by first | rfl | rfl)) rfl (by first | rfl | rfl)) rfl (by first | rfl | rfl)) rfl (by first | rfl | rfl), hh.keep (by repeat (first | exact keeps_nil | apply keeps_cons (by repeat (first | exact find_head | apply find_tail)) (by first  | rfl) | exact keeps_self | apply keeps_mv))⟩ | refine ⟨(⟨s.i + 1, s.I0, s.I1, s.O0, mput s.O1 (ek erp erv) (.int .i64 (((ouC true (log.take s.i) (ek erp erv) : Nat) : Int) + 1))⟩ : TS), (by simp only; omega), (hS.ou1 he hou hb1), hl.addE (t := 17) (hl.addE (t := 2) (hl.addE (t := 3) (hl.addE (t := 15) (hl.addE (t := 16) (hl.nil) rfl (by first | rfl | rfl)) rfl (by first | rfl | rfl)) rfl (by first | rfl | rfl)) rfl (by first | rfl | rfl)) rfl (by first | rfl | rfl), hh.keep (by repeat (first | exact keeps_nil | apply keeps_cons (by repeat (first | exact find_head | apply find_tail)) (by first  | rfl) | exact keeps_self | apply keeps_mv))⟩
          · intro hc2
            try simp only [decide_eq_true_eq, decide_eq_false_iff_not, Bool.not_eq_true', Bool.not_eq_false', Bool.not_eq_true, Bool.not_eq_false, Bool.and_eq_true, Bool.or_eq_true, Bool.and_eq_false_iff, Bool.or_eq_false_iff, Bool.not_not, ne_eq, Int.not_lt, Int.not_le, Decidable.not_not, beq_iff_eq, bne_iff_ne] at hc2
            refine c_seq ?_
            refine c_region ?_
            refine wl (wl_val hl rfl trivial (r_field hl rfl fld62_3) ?_)
            clear hl a; intro a hl
            refine wl (wl_val hl rfl trivial (r_field hl rfl fld34_0) ?_)
            clear hl a; intro a hl
            refine wl (w_load hl hh rfl trivial one31 rfl (by repeat (first | exact find_head | apply find_tail)) (by first | rfl) ?_)
            clear hl a; intro a hl
            refine wl (wl_val hl rfl trivial (r_eql hl rfl rfl) ?_)
            clear hl a; intro a hl
            refine wl (wl_val hl rfl trivial (r_assign hl rfl) ?_)
            clear hl a; intro a hl
            refine w_nil ?_
            have hl2 := hl.add (t := 2) (hl.add (t := 3) (hl.add (t := 5) (hl.add (t := 6) (hl.add (t := 15) (hl.add (t := 16) (hl.add (t := 17) (hl.add (t := 54) (hl.nil) rfl) rfl) rfl) rfl) rfl) rfl) rfl) rfl; clear hl; have hl := hl2; clear hl2
            refine then_normal ?_
            refine c_cond hl rfl ?_ ?_
            · intro hc3
              try simp only [decide_eq_true_eq, decide_eq_false_iff_not, Bool.not_eq_true', Bool.not_eq_false', Bool.not_eq_true, Bool.not_eq_false, Bool.and_eq_true, Bool.or_eq_true, Bool.and_eq_false_iff, Bool.or_eq_false_iff, Bool.not_not, ne_eq, Int.not_lt, Int.not_le, Decidable.not_not, beq_iff_eq, bne_iff_ne] at hc3
              have hou : er = true ∧ eck ≠ 6 ∧ era = 1 := ⟨by first | exact hg1 | exact hg2 | exact hg3, hc1, hc3⟩
              refine c_draw [(k5, C [.int .i64 (et : Int), .bool er, .int .u8 eck, .int .u64 ecv, .int .u64 ecp, .int .u8 era, .int .u64 erv, .int .u64 erp] 62), (k11, MO kBool (mput (mput [] false (.map (some k12))) true (.map (some k13))))] [14] mixed hh ?_
              clear hh w; intro w hh
              have hM : Mem [(k5, C [.int .i64 (et : Int), .bool er, .int .u8 eck, .int .u64 ecv, .int .u64 ecp, .int .u8 era, .int .u64 erv, .int .u64 erp] 62), (k11, MO kBool (mput (mput [] false (.map (some k12))) true (.map (some k13))))] w := (by (repeat (first | exact Mem.nil | refine Mem.cons hh.mem (by (repeat (first | exact find_head | apply find_tail)); done) ?_ | refine Mem.consR hh (by assumption) (by simp) ?_ | fail)); done)
              refine d_take (i := 0) hl rfl (by kernel_rfl) (by kernel_rfl) (by kernel_rfl) (by kernel_rfl) (by kernel_rfl) rfl trivial (fun _ _ _ h => h) hM (fun w hC => r_move hl rfl) rfl ?_
              clear hl a; intro a hl
              refine d_take (i := 1) hl rfl (by kernel_rfl) (by kernel_rfl) (by kernel_rfl) (by kernel_rfl) (by kernel_rfl) rfl trivial (fun _ _ _ h => h) hM (fun w hC => r_move hl rfl) rfl ?_
              clear hl a; intro a hl
              refine d_take (i := 2) hl rfl (by kernel_rfl) (by kernel_rfl) (by kernel_rfl) (by kernel_rfl) (by kernel_rfl) rfl trivial (fun _ _ _ h => h) hM (fun w hC => r_lookup (keyBool Tryf.underlying4) Tryf.underlying75 zero79 hl rfl rfl (hC _ _ (Find.mem (by repeat (first | exact find_head | apply find_tail))))) rfl ?_
              clear hl a; intro a hl
              first | rw [om_f] at hl | rw [om_t] at hl | rw [gO2] at hl | rw [gO] at hl
              refine d_take (i := 3) hl rfl (by kernel_rfl) (by kernel_rfl) (by kernel_rfl) (by kernel_rfl) (by kernel_rfl) rfl trivial (fun _ _ _ h => h) hM (fun w hC => r_field hl rfl fld62_3) rfl ?_
              clear hl a; intro a hl
              refine d_take (i := 4) hl rfl (by kernel_rfl) (by kernel_rfl) (by kernel_rfl) (by kernel_rfl) (by kernel_rfl) rfl trivial (fun _ _ _ h => h) hM (fun w hC => r_field hl rfl fld34_2) rfl ?_
              clear hl a; intro a hl
              refine d_take (i := 5) hl rfl (by kernel_rfl) (by kernel_rfl) (by kernel_rfl) (by kernel_rfl) (by kernel_rfl) rfl trivial (fun _ _ _ h => h) hM (fun w hC => r_loadC hl rfl one32 hC (by repeat (first | exact find_head | apply find_tail)) (by first | rfl)) rfl ?_
              clear hl a; intro a hl
              refine d_take (i := 6) hl rfl (by kernel_rfl) (by kernel_rfl) (by kernel_rfl) (by kernel_rfl) (by kernel_rfl) rfl trivial (fun _ _ _ h => h) hM (fun w hC => r_field hl rfl fld62_3) rfl ?_
              clear hl a; intro a hl
              refine d_take (i := 7) hl rfl (by kernel_rfl) (by kernel_rfl) (by kernel_rfl) (by kernel_rfl) (by kernel_rfl) rfl trivial (fun _ _ _ h => h) hM (fun w hC => r_field hl rfl fld34_1) rfl ?_
              clear hl a; intro a hl
              refine d_take (i := 8) hl rfl (by kernel_rfl) (by kernel_rfl) (by kernel_rfl) (by kernel_rfl) (by kernel_rfl) rfl trivial (fun _ _ _ h => h) hM (fun w hC => r_loadC hl rfl one32 hC (by repeat (first | exact find_head | apply find_tail)) (by first | rfl)) rfl ?_
              clear hl a; intro a hl
              refine d_take (i := 9) hl rfl (by kernel_rfl) (by kernel_rfl) (by kernel_rfl) (by kernel_rfl) (by kernel_rfl) rfl trivial (fun _ _ _ h => h) hM (fun w hC => r_build hl rfl zero81 bld81 (by simp only [fillL, setL, List.getElem?_cons_zero, List.getElem?_cons_succ, Value.cells, List.take_zero, List.take_succ_cons, List.take_nil, List.drop_zero, List.drop_succ_cons, List.drop_nil, List.length_cons, List.length_nil, List.cons_append, List.nil_append, List.append_nil, Nat.zero_add, Nat.add_zero, Nat.reduceAdd, Nat.reduceBEq, Nat.reduceEqDiff, Nat.ble, BEq.rfl, Bool.and_true, Bool.and_self, cond_true, beq_self_eq_true]; rfl)) rfl ?_
              clear hl a; intro a hl
              rw [ek_eq g4 g3] at hl
              refine d_two (i := 10) (j := 12) (by kernel_rfl) rfl rfl ?_ ?_
              ·
                try clear hM
                refine id (w_lookup key81 Tryf.underlying79 zero3 hl hh rfl trivial rfl rfl (by repeat (first | exact find_head | apply find_tail)) ?_)
                clear hl a; intro a hl
                first | rw [om_f] at hl | rw [om_t] at hl | rw [gO2] at hl | rw [gO] at hl
                have hM : Mem [(k5, C [.int .i64 (et : Int), .bool er, .int .u8 eck, .int .u64 ecv, .int .u64 ecp, .int .u8 era, .int .u64 erv, .int .u64 erp] 62), (k11, MO kBool (mput (mput [] false (.map (some k12))) true (.map (some k13))))] w := (by (repeat (first | exact Mem.nil | refine Mem.cons hh.mem (by (repeat (first | exact find_head | apply find_tail)); done) ?_ | refine Mem.consR hh (by assumption) (by simp) ?_ | fail)); done)
                refine d_step (fun _ => hM) ?_
                first | refine d_take (i := 11) hl rfl (by kernel_rfl) (by kernel_rfl) (by kernel_rfl) (by kernel_rfl) (by kernel_rfl) rfl trivial (fun _ _ _ h => h) hM (fun w hC => r_add hl rfl rfl (by simp only [Fits]; omega)) rfl ?_ | refine d_take (i := 11) hl rfl (by kernel_rfl) (by kernel_rfl) (by kernel_rfl) (by kernel_rfl) (by kernel_rfl) rfl trivial (fun _ _ _ h => h) hM (fun w hC => r_addW hl rfl rfl) rfl ?_
                clear hl a; intro a hl
                refine d_one (i := 12) (by kernel_rfl) rfl ?_
                try clear hM
                refine id (w_mapEntry key81 Tryf.underlying79 zero3 hl hh rfl trivial rfl rfl (by repeat (first | exact find_head | apply find_tail)) ?_)
                clear hl hh a w; intro i71 hi71 a w hl hh
                have hM : Mem [(k5, C [.int .i64 (et : Int), .bool er, .int .u8 eck, .int .u64 ecv, .int .u64 ecp, .int .u8 era, .int .u64 erv, .int .u64 erp] 62), (k11, MO kBool (mput (mput [] false (.map (some k12))) true (.map (some k13))))] w := (by (repeat (first | exact Mem.nil | refine Mem.cons hh.mem (by (repeat (first | exact find_head | apply find_tail)); done) ?_ | refine Mem.consR hh (by assumption) (by simp) ?_ | fail)); done)
                refine d_step (fun _ => hM) ?_
                refine d_take (i := 13) hl rfl (by kernel_rfl) (by kernel_rfl) (by kernel_rfl) (by kernel_rfl) (by kernel_rfl) rfl trivial (fun _ _ _ h => h) hM (fun w hC => r_extract hl rfl (by simp only [List.getElem?_toArray, List.getElem?_cons_zero, List.getElem?_cons_succ]; rfl)) rfl ?_
                clear hl a; intro a hl
                refine d_one (i := 14) (by kernel_rfl) rfl ?_
                try clear hM
                refine id (w_entryStore hi71 hl hh trivial rfl rfl rfl (by repeat (first | exact find_head | apply find_tail)) ?_)
                clear hh w; intro w hh; rw [mput_mput] at hh
                refine d_step (fun h => absurd h (by decide)) ?_
                refine d_done (by kernel_rfl) ?_
                try clear hM
                have hl2 := hl.add (t := 2) (hl.add (t := 3) (hl.add (t := 15) (hl.add (t := 16) (hl.add (t := 17) (hl.nil) rfl) rfl) rfl) rfl) rfl; clear hl; have hl := hl2; clear hl2
                refine blk_normal ?_
                refine blk_normal ?_
                refine then_normal ?_
                refine c_region ?_
                first | refine wl (wl_val hl rfl trivial (r_add hl rfl rfl (by simp only [Fits]; omega)) ?_) | refine wl (wl_val hl rfl trivial (r_addW hl rfl rfl) ?_)
                clear hl a; intro a hl
                refine wl (wl_val hl rfl trivial (r_move hl rfl) ?_)
                clear hl a; intro a hl
                refine w_nil ?_
                have hl2 := hl.add (t := 2) (hl.add (t := 3) (hl.add (t := 15) (hl.add (t := 16) (hl.add (t := 17) (hl.nil) rfl) rfl) rfl) rfl) rfl; clear hl; have hl := hl2; clear hl2
                refine then_normal ?_
                first | refine ⟨(⟨s.i + 1, s.I0, s.I1, s.O0, s.O1⟩ : TS), (by simp only; omega), (hS.skip he hsk), hl.addE (t := 17) (hl.addE (t := 2) (hl.addE (t := 3) (hl.addE (t := 15) (hl.addE (t := 16) (hl.nil) rfl (by first | rfl | rfl)) rfl (by first | rfl | rfl)) rfl (by first | rfl | rfl)) rfl (by first | rfl | rfl)) rfl (by first | rfl | rfl), hh.keep (by repeat (first | exact keeps_nil | apply keeps_cons (by repeat (first | exact find_head | apply find_tail)) (by first  | rfl) | exact keeps_self | apply keeps_mv))⟩ | refine ⟨(⟨s.i + 1, mput s.I0 (ek ecp ecv) (.int .i64 (((inC false (log.take s.i) (ek ecp ecv) : Nat) : Int) + 1)), s.I1, s.O0, s.O1⟩ : TS), (by simp only; omega), (hS.in0 he hin hb0), hl.addE (t := 17) (hl.addE (t := 2) (hl.addE (t := 3) (hl.addE (t := 15) (hl.addE (t := 16) (hl.nil) rfl (by first | rfl | rfl)) rfl (by first | rfl | rfl)) rfl (by first | rfl | rfl)) rfl (by first | rfl | rfl)) rfl (by first | rfl | rfl), hh.keep (by repeat (first | exact keeps_nil | apply keeps_cons (by repeat (first | exact find_head | apply find_tail)) (by first  | rfl) | exact keeps_self | apply keeps_mv))⟩ | refine ⟨(⟨s.i + 1, s.I0, mput s.I1 (ek ecp ecv) (.int .i64 (((inC true (log.take s.i) (ek ecp ecv) : Nat) : Int) + 1)), s.O0, s.O1⟩ : TS), (by simp only; omega), (hS.in1 he hin hb1), hl.addE (t := 17) (hl.addE (t := 2) (hl.addE (t := 3) (hl.addE (t := 15) (hl.addE (t := 16) (hl.nil) rfl (by first | rfl | rfl)) rfl (by first | rfl | rfl)) rfl (by first | rfl | rfl)) rfl (by first | rfl | rfl)) rfl (by first | rfl | rfl), hh.keep (by repeat (first | exact keeps_nil | apply keeps_cons (by repeat (first | exact find_head | apply find_tail)) (by first  | rfl) | exact keeps_self | apply keeps_mv))⟩ | refine ⟨(⟨s.i + 1, s.I0, s.I1, mput s.O0 (ek erp erv) (.int .i64 (((ouC false (log.take s.i) (ek erp erv) : Nat) : Int) + 1)), s.O1⟩ : TS), (by simp only; omega), (hS.ou0 he hou hb0), hl.addE (t := 17) (hl.addE (t := 2) (hl.addE (t := 3) (hl.addE (t := 15) (hl.addE (t := 16) (hl.nil) rfl (by first | rfl | rfl)) rfl (by first | rfl | rfl)) rfl (by first | rfl | rfl)) rfl (by first | rfl | rfl)) rfl (by first | rfl | rfl), hh.keep (by repeat (first | exact keeps_nil | apply keeps_cons (by repeat (first | exact find_head | apply find_tail)) (by first  | rfl) | exact keeps_self | apply keeps_mv))⟩ | refine ⟨(⟨s.i + 1, s.I0, s.I1, s.O0, mput s.O1 (ek erp erv) (.int .i64 (((ouC true (log.take s.i) (ek erp erv) : Nat) : Int) + 1))⟩ : TS), (by simp only; omega), (hS.ou1 he hou hb1), hl.addE (t := 17) (hl.addE (t := 2) (hl.addE (t := 3) (hl.addE (t := 15) (hl.addE (t := 16) (hl.nil) rfl (by first | rfl | rfl)) rfl (by first | rfl | rfl)) rfl (by first | rfl | rfl)) rfl (by first | rfl | rfl)) rfl (by first | rfl | rfl), hh.keep (by repeat (first | exact keeps_nil | apply keeps_cons (by repeat (first | exact find_head | apply find_tail)) (by first  | rfl) | exact keeps_self | apply keeps_mv))⟩
              ·
                try clear hM
                refine id (w_mapEntry key81 Tryf.underlying79 zero3 hl hh rfl trivial rfl rfl (by repeat (first | exact find_head | apply find_tail)) ?_)
                clear hl hh a w; intro i71 hi71 a w hl hh
                have hM : Mem [(k5, C [.int .i64 (et : Int), .bool er, .int .u8 eck, .int .u64 ecv, .int .u64 ecp, .int .u8 era, .int .u64 erv, .int .u64 erp] 62), (k11, MO kBool (mput (mput [] false (.map (some k12))) true (.map (some k13))))] w := (by (repeat (first | exact Mem.nil | refine Mem.cons hh.mem (by (repeat (first | exact find_head | apply find_tail)); done) ?_ | refine Mem.consR hh (by assumption) (by simp) ?_ | fail)); done)
                refine d_step (fun _ => hM) ?_
                refine d_take (i := 13) hl rfl (by kernel_rfl) (by kernel_rfl) (by kernel_rfl) (by kernel_rfl) (by kernel_rfl) rfl trivial (fun _ _ _ h => h) hM (fun w hC => r_extract hl rfl (by simp only [List.getElem?_toArray, List.getElem?_cons_zero, List.getElem?_cons_succ]; rfl)) rfl ?_
                clear hl a; intro a hl
                refine d_one (i := 10) (by kernel_rfl) rfl ?_
                try clear hM
                refine id (w_lookup key81 Tryf.underlying79 zero3 hl hh rfl trivial rfl rfl (by repeat (first | exact find_head | apply find_tail)) ?_)
                clear hl a; intro a hl
                first | rw [om_f] at hl | rw [om_t] at hl | rw [gO2] at hl | rw [gO] at hl
                have hM : Mem [(k5, C [.int .i64 (et : Int), .bool er, .int .u8 eck, .int .u64 ecv, .int .u64 ecp, .int .u8 era, .int .u64 erv, .int .u64 erp] 62), (k11, MO kBool (mput (mput [] false (.map (some k12))) true (.map (some k13))))] w := (by (repeat (first | exact Mem.nil | refine Mem.cons hh.mem (by (repeat (first | exact find_head | apply find_tail)); done) ?_ | refine Mem.consR hh (by assumption) (by simp) ?_ | fail)); done)
                refine d_step (fun _ => hM) ?_
                first | refine d_take (i := 11) hl rfl (by kernel_rfl) (by kernel_rfl) (by kernel_rfl) (by kernel_rfl) (by kernel_rfl) rfl trivial (fun _ _ _ h => h) hM (fun w hC => r_add hl rfl rfl (by simp only [Fits]; omega)) rfl ?_ | refine d_take (i := 11) hl rfl (by kernel_rfl) (by kernel_rfl) (by kernel_rfl) (by kernel_rfl) (by kernel_rfl) rfl trivial (fun _ _ _ h => h) hM (fun w hC => r_addW hl rfl rfl) rfl ?_
                clear hl a; intro a hl
                refine d_one (i := 14) (by kernel_rfl) rfl ?_
                try clear hM
                refine id (w_entryStore hi71 hl hh trivial rfl rfl rfl (by repeat (first | exact find_head | apply find_tail)) ?_)
                clear hh w; intro w hh; rw [mput_mput] at hh
                refine d_step (fun h => absurd h (by decide)) ?_
                refine d_done (by kernel_rfl) ?_
                try clear hM
                have hl2 := hl.add (t := 2) (hl.add (t := 3) (hl.add (t := 15) (hl.add (t := 16) (hl.add (t := 17) (hl.nil) rfl) rfl) rfl) rfl) rfl; clear hl; have hl := hl2; clear hl2
                refine blk_normal ?_
                refine blk_normal ?_
                refine then_normal ?_
                refine c_region ?_
                first | refine wl (wl_val hl rfl trivial (r_add hl rfl rfl (by simp only [Fits]; omega)) ?_) | refine wl (wl_val hl rfl trivial (r_addW hl rfl rfl) ?_)
                clear hl a; intro a hl
                refine wl (wl_val hl rfl trivial (r_move hl rfl) ?_)
                clear hl a; intro a hl
                refine w_nil ?_
                have hl2 := hl.add (t := 2) (hl.add (t := 3) (hl.add (t := 15) (hl.add (t := 16) (hl.add (t := 17) (hl.nil) rfl) rfl) rfl) rfl) rfl; clear hl; have hl := hl2; clear hl2
                refine then_normal ?_
                first | refine ⟨(⟨s.i + 1, s.I0, s.I1, s.O0, s.O1⟩ : TS), (by simp only; omega), (hS.skip he hsk), hl.addE (t := 17) (hl.addE (t := 2) (hl.addE (t := 3) (hl.addE (t := 15) (hl.addE (t := 16) (hl.nil) rfl (by first | rfl | rfl)) rfl (by first | rfl | rfl)) rfl (by first | rfl | rfl)) rfl (by first | rfl | rfl)) rfl (by first | rfl | rfl), hh.keep (by repeat (first | exact keeps_nil | apply keeps_cons (by repeat (first | exact find_head | apply find_tail)) (by first  | rfl) | exact keeps_self | apply keeps_mv))⟩ | refine ⟨(⟨s.i + 1, mput s.I0 (ek ecp ecv) (.int .i64 (((inC false (log.take s.i) (ek ecp ecv) : Nat) : Int) + 1)), s.I1, s.O0, s.O1⟩ : TS), (by simp only; omega), (hS.in0 he hin hb0), hl.addE (t := 17) (hl.addE (t := 2) (hl.addE (t := 3) (hl.addE (t := 15) (hl.addE (t := 16) (hl.nil) rfl (by first | rfl | rfl)) rfl (by first | rfl | rfl)) rfl (by first | rfl | rfl)) rfl (by first | rfl | rfl)) rfl (by first | rfl | rfl), hh.keep (by repeat (first | exact keeps_nil | apply keeps_cons (by repeat (first | exact find_head | apply find_tail)) (by first  | rfl) | exact keeps_self | apply keeps_mv))⟩ | refine ⟨(⟨s.i + 1, s.I0, mput s.I1 (ek ecp ecv) (.int .i64 (((inC true (log.take s.i) (ek ecp ecv) : Nat) : Int) + 1)), s.O0, s.O1⟩ : TS), (by simp only; omega), (hS.in1 he hin hb1), hl.addE (t := 17) (hl.addE (t := 2) (hl.addE (t := 3) (hl.addE (t := 15) (hl.addE (t := 16) (hl.nil) rfl (by first | rfl | rfl)) rfl (by first | rfl | rfl)) rfl (by first | rfl | rfl)) rfl (by first | rfl | rfl)) rfl (by first | rfl | rfl), hh.keep (by repeat (first | exact keeps_nil | apply keeps_cons (by repeat (first | exact find_head | apply find_tail)) (by first  | rfl) | exact keeps_self | apply keeps_mv))⟩ | refine ⟨(⟨s.i + 1, s.I0, s.I1, mput s.O0 (ek erp erv) (.int .i64 (((ouC false (log.take s.i) (ek erp erv) : Nat) : Int) + 1)), s.O1⟩ : TS), (by simp only; omega), (hS.ou0 he hou hb0), hl.addE (t := 17) (hl.addE (t := 2) (hl.addE (t := 3) (hl.addE (t := 15) (hl.addE (t := 16) (hl.nil) rfl (by first | rfl | rfl)) rfl (by first | rfl | rfl)) rfl (by first | rfl | rfl)) rfl (by first | rfl | rfl)) rfl (by first | rfl | rfl), hh.keep (by repeat (first | exact keeps_nil | apply keeps_cons (by repeat (first | exact find_head | apply find_tail)) (by first  | rfl) | exact keeps_self | apply keeps_mv))⟩ | refine ⟨(⟨s.i + 1, s.I0, s.I1, s.O0, mput s.O1 (ek erp erv) (.int .i64 (((ouC true (log.take s.i) (ek erp erv) : Nat) : Int) + 1))⟩ : TS), (by simp only; omega), (hS.ou1 he hou hb1), hl.addE (t := 17) (hl.addE (t := 2) (hl.addE (t := 3) (hl.addE (t := 15) (hl.addE (t := 16) (hl.nil) rfl (by first | rfl | rfl)) rfl (by first | rfl | rfl)) rfl (by first | rfl | rfl)) rfl (by first | rfl | rfl)) rfl (by first | rfl | rfl), hh.keep (by repeat (first | exact keeps_nil | apply keeps_cons (by repeat (first | exact find_head | apply find_tail)) (by first  | rfl) | exact keeps_self | apply keeps_mv))⟩
            · intro hc3
              try simp only [decide_eq_true_eq, decide_eq_false_iff_not, Bool.not_eq_true', Bool.not_eq_false', Bool.not_eq_true, Bool.not_eq_false, Bool.and_eq_true, Bool.or_eq_true, Bool.and_eq_false_iff, Bool.or_eq_false_iff, Bool.not_not, ne_eq, Int.not_lt, Int.not_le, Decidable.not_not, beq_iff_eq, bne_iff_ne] at hc3
              have hsk : ¬ (er = true ∧ eck ≠ 6 ∧ (era = 0 ∨ era = 1)) := fun z => (by rcases z.2.2 with q | q; exact hc2 q; exact hc3 q)
              refine wp_skip ?_
              refine blk_normal ?_
              refine blk_normal ?_
              refine then_normal ?_
              refine c_region ?_
              first | refine wl (wl_val hl rfl trivial (r_add hl rfl rfl (by simp only [Fits]; omega)) ?_) | refine wl (wl_val hl rfl trivial (r_addW hl rfl rfl) ?_)
              clear hl a; intro a hl
              refine wl (wl_val hl rfl trivial (r_move hl rfl) ?_)
              clear hl a; intro a hl
              refine w_nil ?_
              have hl2 := hl.add (t := 2) (hl.add (t := 3) (hl.add (t := 15) (hl.add (t := 16) (hl.add (t := 17) (hl.nil) rfl) rfl) rfl) rfl) rfl; clear hl; have hl := hl2; clear hl2
              refine then_normal ?_
              first | refine ⟨(⟨s.i + 1, s.I0, s.I1, s.O0, s.O1⟩ : TS), (by simp only; omega), (hS.skip he hsk), hl.addE (t := 17) (hl.addE (t := 2) (hl.addE (t := 3) (hl.addE (t := 15) (hl.addE (t := 16) (hl.nil) rfl (by first | rfl | rfl)) rfl (by first | rfl | rfl)) rfl (by first | rfl | rfl)) rfl (by first | rfl | rfl)) rfl (by first | rfl | rfl), hh.keep (by repeat (first | exact keeps_nil | apply keeps_cons (by repeat (first | exact find_head | apply find_tail)) (by first  | rfl) | exact keeps_self | apply keeps_mv))⟩ | refine ⟨(⟨s.i + 1, mput s.I0 (ek ecp ecv) (.int .i64 (((inC false (log.take s.i) (ek ecp ecv) : Nat) : Int) + 1)), s.I1, s.O0, s.O1⟩ : TS), (by simp only; omega), (hS.in0 he hin hb0), hl.addE (t := 17) (hl.addE (t := 2) (hl.addE (t := 3) (hl.addE (t := 15) (hl.addE (t := 16) (hl.nil) rfl (by first | rfl | rfl)) rfl (by first | rfl | rfl)) rfl (by first | rfl | rfl)) rfl (by first | rfl | rfl)) rfl (by first | rfl | rfl), hh.keep (by repeat (first | exact keeps_nil | apply keeps_cons (by repeat (first | exact find_head | apply find_tail)) (by first  | rfl) | exact keeps_self | apply keeps_mv))⟩ | refine ⟨(⟨s.i + 1, s.I0, mput s.I1 (ek ecp ecv) (.int .i64 (((inC true (log.take s.i) (ek ecp ecv) : Nat) : Int) + 1)), s.O0, s.O1⟩ : TS), (by simp only; omega), (hS.in1 he hin hb1), hl.addE (t := 17) (hl.addE (t := 2) (hl.addE (t := 3) (hl.addE (t := 15) (hl.addE (t := 16) (hl.nil) rfl (by first | rfl | rfl)) rfl (by first | rfl | rfl)) rfl (by first | rfl | rfl)) rfl (by first | rfl | rfl)) rfl (by first | rfl | rfl), hh.keep (by repeat (first | exact keeps_nil | apply keeps_cons (by repeat (first | exact find_head | apply find_tail)) (by first  | rfl) | exact keeps_self | apply keeps_mv))⟩ | refine ⟨(⟨s.i + 1, s.I0, s.I1, mput s.O0 (ek erp erv) (.int .i64 (((ouC false (log.take s.i) (ek erp erv) : Nat) : Int) + 1)), s.O1⟩ : TS), (by simp only; omega), (hS.ou0 he hou hb0), hl.addE (t := 17) (hl.addE (t := 2) (hl.addE (t := 3) (hl.addE (t := 15) (hl.addE (t := 16) (hl.nil) rfl (by first | rfl | rfl)) rfl (by first | rfl | rfl)) rfl (by first | rfl | rfl)) rfl (by first | rfl | rfl)) rfl (by first | rfl | rfl), hh.keep (by repeat (first | exact keeps_nil | apply keeps_cons (by repeat (first | exact find_head | apply find_tail)) (by first  | rfl) | exact keeps_self | apply keeps_mv))⟩ | refine ⟨(⟨s.i + 1, s.I0, s.I1, s.O0, mput s.O1 (ek erp erv) (.int .i64 (((ouC true (log.take s.i) (ek erp erv) : Nat) : Int) + 1))⟩ : TS), (by simp only; omega), (hS.ou1 he hou hb1), hl.addE (t := 17) (hl.addE (t := 2) (hl.addE (t := 3) (hl.addE (t := 15) (hl.addE (t := 16) (hl.nil) rfl (by first | rfl | rfl)) rfl (by first | rfl | rfl)) rfl (by first | rfl | rfl)) rfl (by first | rfl | rfl)) rfl (by first | rfl | rfl), hh.keep (by repeat (first | exact keeps_nil | apply keeps_cons (by repeat (first | exact find_head | apply find_tail)) (by first  | rfl) | exact keeps_self | apply keeps_mv))⟩
  · intro hc0
    try simp only [decide_eq_true_eq, decide_eq_false_iff_not, Bool.not_eq_true', Bool.not_eq_false', Bool.not_eq_true, Bool.not_eq_false, Bool.and_eq_true, Bool.or_eq_true, Bool.and_eq_false_iff, Bool.or_eq_false_iff, Bool.not_not, ne_eq, Int.not_lt, Int.not_le, Decidable.not_not, beq_iff_eq, bne_iff_ne] at hc0
    have hsl : s.i = log.length := by have := hS.i; omega
    refine wp_exit ?_
    refine then_exit ?_
    refine then_exit ?_
    refine blk_exit ?_
    refine then_normal ?_
    refine c_seq ?_
    refine c_region ?_
    refine wl (wl_val hl rfl trivial (r_move hl rfl) ?_)
    clear hl a; intro a hl
    refine wl (wl_val hl rfl trivial (r_move hl rfl) ?_)
    clear hl a; intro a hl
    refine wl (wl_val hl rfl trivial (r_assign hl rfl) ?_)
    clear hl a; intro a hl
    refine wl (wl_val hl rfl trivial (r_assign hl rfl) ?_)
    clear hl a; intro a hl
    refine w_nil ?_
    have hl2 := hl.add (t := 2) (hl.add (t := 3) (hl.nil) rfl) rfl; clear hl; have hl := hl2; clear hl2
    refine then_normal ?_
    refine wp_ret ?_
    refine f_ret2 (F' := [(lb, C (log.flatMap evL ++ junk) 62), (k7, MO kBool (mput (mput [] false (.map (some k8))) true (.map (some k9)))), (k11, MO kBool (mput (mput [] false (.map (some k12))) true (.map (some k13)))), (k8, MO k81 s.I0), (k9, MO k81 s.I1), (k12, MO k81 s.O0), (k13, MO k81 s.O1)]) hl hh rfl rfl rfl (by repeat (first | exact keeps_nil | apply keeps_cons (by repeat (first | exact find_head | apply find_tail)) (by first  | rfl) | exact keeps_self | apply keeps_mv)) ?_
    exact ⟨k7, k11, k8, k9, k12, k13, s, hS, hsl, rfl, rfl⟩
end Go.Proofs.Qxb6500914aFmt

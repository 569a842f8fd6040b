import Derived.Test.Qxb6500915aGreatDoorH3
import Derived.Test.Qxb6500915aGreatDoorE7
namespace Go.Proofs.Qxb6500915aGreatDoor
open Go.Eng
set_option linter.unusedVariables false
set_option linter.unusedSimpArgs false
theorem app132 : appOk Tryz.prog 132 129 3 40 = true := by kernel_rfl
theorem agg181 : aggOk Tryz.prog 181 2 = true := by kernel_rfl
theorem fld181_0 : fieldOk Tryz.prog 181 0 0 = true := by kernel_rfl
theorem fld181_1 : fieldOk Tryz.prog 181 1 1 = true := by kernel_rfl
theorem cal87 : callable Tryz.prog 87 = true := by kernel_rfl
theorem zero129 : zeroOk Tryz.prog 129 (.agg #[(.int .u64 0), (.slice none 0 0), (.int .i64 0)]) := by unfold zeroOk; kernel_rfl
theorem bld129 : buildOk Tryz.prog 129 [(0, 1), (1, 1), (2, 1)] = true := by kernel_rfl
theorem agg129 : aggOk Tryz.prog 129 3 = true := by kernel_rfl
/-! ## following the picks -/
def twL (B : List Lt) (oc : List Int) (c : Core) (picks : List (Nat × Nat)) (pk : Nat × Nat) (l : Lt) : Nat → Bool
  | 0 => false
  | j + 1 => match picks[j]? with
    | some pr => if pr.1 = pk.1 then (match B[pr.2]? with
      | some m => if twinP oc c.2.1 c.1 pr.2 pk.2 m l = true then true else twL B oc c picks pk l j
      | none => twL B oc c picks pk l j) else false
    | none => false
theorem twL_yes {B : List Lt} {oc : List Int} {c : Core} {picks : List (Nat × Nat)} {pk pr : Nat × Nat} {l m : Lt} {j : Nat} (h : picks[j]? = some pr) (h1 : pr.1 = pk.1) (h2 : B[pr.2]? = some m) (h3 : twinP oc c.2.1 c.1 pr.2 pk.2 m l = true) : twL B oc c picks pk l (j + 1) = true := by
  unfold twL; rw [h]; simp only; rw [if_pos h1, h2]; simp only; rw [if_pos h3]
theorem twL_no {B : List Lt} {oc : List Int} {c : Core} {picks : List (Nat × Nat)} {pk pr : Nat × Nat} {l m : Lt} {j : Nat} (h : picks[j]? = some pr) (h1 : pr.1 = pk.1) (h2 : B[pr.2]? = some m) (h3 : twinP oc c.2.1 c.1 pr.2 pk.2 m l = false) : twL B oc c picks pk l (j + 1) = twL B oc c picks pk l j := by
  conv => lhs; unfold twL
  rw [h]; simp only; rw [if_pos h1, h2]; simp only; rw [if_neg (by rw [h3]; exact Bool.false_ne_true)]
theorem twL_ne {B : List Lt} {oc : List Int} {c : Core} {picks : List (Nat × Nat)} {pk pr : Nat × Nat} {l : Lt} {j : Nat} (h : picks[j]? = some pr) (h1 : ¬ pr.1 = pk.1) : twL B oc c picks pk l (j + 1) = false := by
  unfold twL; rw [h]; simp only; rw [if_neg h1]
def newC (c : Core) (l : Lt) (li : Nat) : Core := (bitsOf .or .u64 c.1 (sh64 li), (rdTs c.2 l.a).1)
def followP (B : List Lt) (oc : List Int) (cs : List Core) (picks : List (Nat × Nat)) : Nat → List Core
  | 0 => []
  | k + 1 => match picks[k]? with
    | some pk => match cs[pk.1]?, B[pk.2]? with
      | some c, some l => if twL B oc c picks pk l k = true then followP B oc cs picks k else followP B oc cs picks k ++ [newC c l pk.2]
      | _, _ => followP B oc cs picks k
    | none => followP B oc cs picks k
theorem follow_yes {B : List Lt} {oc : List Int} {cs : List Core} {picks : List (Nat × Nat)} {k : Nat} {pk : Nat × Nat} {c : Core} {l : Lt} (h : picks[k]? = some pk) (h1 : cs[pk.1]? = some c) (h2 : B[pk.2]? = some l) (h3 : twL B oc c picks pk l k = true) : followP B oc cs picks (k + 1) = followP B oc cs picks k := by
  conv => lhs; unfold followP
  rw [h]; simp only; rw [h1, h2]; simp only; rw [if_pos h3]
theorem follow_no {B : List Lt} {oc : List Int} {cs : List Core} {picks : List (Nat × Nat)} {k : Nat} {pk : Nat × Nat} {c : Core} {l : Lt} (h : picks[k]? = some pk) (h1 : cs[pk.1]? = some c) (h2 : B[pk.2]? = some l) (h3 : twL B oc c picks pk l k = false) : followP B oc cs picks (k + 1) = followP B oc cs picks k ++ [newC c l pk.2] := by
  conv => lhs; unfold followP
  rw [h]; simp only; rw [h1, h2]; simp only; rw [if_neg (by rw [h3]; exact Bool.false_ne_true)]
def SQ.blk (s : SQ) : List (Nat × Obj) := nbE s.np s.jn s.num
theorem row_nok {p : Option Addr} {c : Nat} {num : List Int} {E : List (Nat × Obj)} (h : Row (.slice p num.length c) num.length (fl iI num) 1 3 E) : ∃ jn, E = nbE p jn num ∧ NOk p c jn num.length := by
  rcases h with ⟨h1, h2, _, h4⟩ | ⟨b, cap, junk, h1, _, h3, h4, h5⟩
  · injection h1 with e1 e2 e3
    subst e1
    exact ⟨[], by rw [h4]; rfl, .inl ⟨rfl, h2, e3, rfl⟩⟩
  · injection h1 with e1 e2 e3
    subst e1
    refine ⟨junk, h5, .inr ⟨b, rfl, ?_⟩⟩
    rw [List.length_append, fl_len iI_len] at h3
    omega
theorem rd_lt {s : Nm} (h0 : 0 ≤ s.2) (h : ∀ u, -1 ≤ fnI s.1 u ∧ fnI s.1 u < s.2) : ∀ ts : List Tm, ∀ u, -1 ≤ fnI (rdTs s ts).1.1 u ∧ fnI (rdTs s ts).1.1 u < (rdTs s ts).1.2 := by
  intro ts
  induction ts generalizing s with
  | nil => exact h
  | cons t ts ih =>
    have h1 := rd1_nl s t
    refine ih (s := (rd1 s t).1) (by omega) fun u => ?_
    have hu := h u
    unfold rd1; repeat' split
    · show -1 ≤ fnI (s.1.set t.v.toNat s.2) u ∧ fnI (s.1.set t.v.toNat s.2) u < s.2 + 1
      by_cases hl9 : t.v.toNat < s.1.length
      · rw [fnI_set hl9]
        by_cases e : u = t.v.toNat
        · rw [e, upd_self]; omega
        · rw [upd_ne e]; omega
      · rw [List.set_eq_of_length_le (by omega)]; omega
    · exact hu
    · exact hu
structure FS9 where
  k : Nat
  nbs : List SQ
  p : Option Addr
  c : Nat
  E : List (Nat × Obj)
structure FSI (X : SX) (cs : List Core) (picks : List (Nat × Nat)) (R : Int) (s : FS9) : Prop where
  k : s.k ≤ picks.length
  co : s.nbs.map SQ.core = followP X.B X.oc cs picks s.k
  nl : s.nbs.length ≤ s.k
  row : Row (.slice s.p s.nbs.length s.c) s.nbs.length (fl SQ.cells s.nbs) 3 129 s.E
  ok : ∀ b, b ∈ s.nbs → b.ok X.vs ∧ b.nx ≤ R + 65536
theorem new_ok {X : SX} {st : SQ} (hok : st.ok X.vs) {x : LV} (hx : x.ok) {R : Int} (hR : st.nx ≤ R) (hRb : R + 65536 ≤ 1000000000) {np : Option Addr} {nc : Nat} {jn : List Value} (hN : NOk np nc jn st.num.length) (pl : Int) : SQ.ok ⟨pl, (rdTs (st.num, st.nx) x.l.a).1.1, (rdTs (st.num, st.nx) x.l.a).1.2, np, nc, jn⟩ X.vs ∧ (rdTs (st.num, st.nx) x.l.a).1.2 ≤ R + 65536 := by
  have h1 := rdTs_nl (st.num, st.nx) x.l.a
  have h2 := hx.ags.len
  have h3 := hok.nx
  simp only at h1
  refine ⟨⟨h1.1.trans hok.len, by show NOk np nc jn (rdTs (st.num, st.nx) x.l.a).1.1.length; rw [h1.1]; exact hN, by simp only; omega, rd_lt (s := (st.num, st.nx)) h3.1 hok.lt x.l.a⟩, by omega⟩


set_option maxHeartbeats 16000000 in
theorem follow_spec (X : SX) (Z : List (Nat × Obj)) (hX : SIn X Z) (bs : List SQ) (fb cap : Nat) (jf : List Value) (hF : FrI X Z bs fb jf) (R : Int) (hR0 : ∀ s, s ∈ bs → s.nx ≤ R) (hRb : R + 65536 ≤ 1000000000) (hbl : bs.length ≤ 100000) (picks : List (Nat × Nat)) (pp : Option Addr) (pc : Nat) (Ep : List (Nat × Obj)) (hP : Row (.slice pp picks.length pc) picks.length (fl qc2 picks) 2 181 Ep) (hEp : ∀ x, x ∈ Ep → x ∈ Z) (hpl : picks.length ≤ 900000) (hpv : ∀ q, q ∈ picks → q.1 < bs.length ∧ q.2 < X.xs.length) : SpK Tryz.prog 59 #[.pointer (some ⟨X.sb, 0, none⟩), .slice (some ⟨fb, 0, none⟩) bs.length cap, .slice pp picks.length pc] (Mem Z) [] (fun u F' => ∃ (nbs : List SQ) (p9 : Option Addr) (c9 : Nat) (En : List (Nat × Obj)), nbs.map SQ.core = followP X.B X.oc (bs.map SQ.core) picks picks.length ∧ nbs.length ≤ picks.length ∧ u = .slice p9 nbs.length c9 ∧ Row (.slice p9 nbs.length c9) nbs.length (fl SQ.cells nbs) 3 129 En ∧ (∀ b, b ∈ nbs → b.ok X.vs ∧ b.nx ≤ R + 65536) ∧ F' = En ++ List.flatMap SQ.blk nbs) := by
  refine f_enter (args := [.pointer (some ⟨X.sb, 0, none⟩), .slice (some ⟨fb, 0, none⟩) bs.length cap, .slice pp picks.length pc]) Tryz.func59 rfl Tryz.ntmps59 rfl ?_
  intro w0 w a hpre hl hh
  have hms := hpre _ _ hX.s; have hmb := hpre _ _ hX.b; have hmf := hpre _ _ hF.f
  have h64 := hX.n64
  simp only [slotsFrom, Nat.reduceAdd] at hl
  refine c_seq ?_
  refine c_region ?_
  refine wl (wl_val hl rfl trivial (r_assign hl rfl) ?_)
  clear hl a; intro a hl
  refine w_nil ?_
  have hl2 := hl.add (t := 0) (hl.add (t := 1) (hl.add (t := 2) (hl.nil) rfl) rfl) rfl; clear hl; have hl := hl2; clear hl2
  refine then_normal ?_
  refine c_seq ?_
  refine c_region ?_
  refine wl (wl_val hl rfl trivial (r_move hl rfl) ?_)
  clear hl a; intro a hl
  refine wl (wl_val hl rfl trivial (r_lenS hl rfl slc133) ?_)
  clear hl a; intro a hl
  refine wl (w_makeSlice0 hl hh rfl trivial app132 rfl rfl (by omega) (by decide) ?_)
  clear hl hh a w; intro k16 jk16 a w hjk16 hl hh
  refine wl (wl_val hl rfl trivial (r_assign hl rfl) ?_)
  clear hl a; intro a hl
  refine w_nil ?_
  have hl2 := hl.add (t := 0) (hl.add (t := 1) (hl.add (t := 2) (hl.add (t := 7) (hl.nil) rfl) rfl) rfl) rfl; clear hl; have hl := hl2; clear hl2
  refine then_normal ?_
  refine c_seq ?_
  refine c_seq ?_
  refine c_region ?_
  refine wl (wl_val hl rfl trivial (r_move hl rfl) ?_)
  clear hl a; intro a hl
  refine wl (wl_val hl rfl trivial (r_lenS hl rfl slc133) ?_)
  clear hl a; intro a hl
  refine wl (wl_val hl rfl trivial (r_move hl rfl) ?_)
  clear hl a; intro a hl
  refine w_nil ?_
  have hl2 := hl.add (t := 0) (hl.add (t := 1) (hl.add (t := 2) (hl.add (t := 7) (hl.add (t := 17) (hl.add (t := 18) (hl.add (t := 19) (hl.nil) rfl) rfl) rfl) rfl) rfl) rfl) rfl; clear hl; have hl := hl2; clear hl2
  refine then_normal ?_
  refine wp_block ?_
  obtain ⟨KS0, hKS0, hk⟩ := (hl.add (t := 0) (hl.add (t := 1) (hl.add (t := 2) (hl.add (t := 17) (hl.add (t := 18) (hl.nil) rfl) rfl) rfl) rfl) rfl).name
  obtain ⟨HS0, hHS0, hh2⟩ := hh.nameT (A := []) (U := [(k16, C jk16 129)]) ((by repeat (first | exact keeps_nil | exact keeps_self | exact keeps_left | apply keeps_app | apply keeps_mv | apply keeps_skip)))
  refine c_loop (α := FS9) (fun z => picks.length - z.k) (fun z a w => (FSI X (bs.map SQ.core) picks R z) ∧ Sl 95 ([(19, .int .i64 (z.k : Int)), (7, .slice z.p z.nbs.length z.c)] ++ KS0) a ∧ Has _ w0 ([] ++ (HS0 ++ (z.E ++ List.flatMap SQ.blk z.nbs))) w) ⟨0, [], some ⟨k16, 0, none⟩, picks.length, [(k16, C jk16 129)]⟩ ⟨⟨Nat.zero_le _, rfl, Nat.zero_le _, row_mk0 hjk16, fun b hb => (by cases hb)⟩, hl.addE (t := 19) (hl.addE (t := 7) (hk) rfl (by first | rfl)) rfl (by first | rfl), hh2⟩ ?_
  clear hk hh2 hl hh a w
  intro z a w hI
  obtain ⟨hI, hl, hh⟩ := hI
  subst hKS0; subst hHS0
  simp only [List.cons_append, List.nil_append, List.append_nil, List.append_assoc] at hl hh
  have hIk := hI.k; have hInl := hI.nl
  refine c_seq ?_
  refine c_region ?_
  refine wl (wl_val hl rfl trivial (r_lss hl rfl rfl) ?_)
  clear hl a; intro a hl
  refine w_nil ?_
  have hl2 := hl.add (t := 0) (hl.add (t := 1) (hl.add (t := 2) (hl.add (t := 7) (hl.add (t := 17) (hl.add (t := 18) (hl.add (t := 19) (hl.add (t := 20) (hl.nil) rfl) rfl) rfl) rfl) rfl) rfl) rfl) rfl; clear hl; have hl := hl2; clear hl2
  refine then_normal ?_
  refine c_seq ?_
  refine c_cond hl rfl ?_ ?_
  · intro hc0
    try simp only [decide_eq_true_eq, decide_eq_false_iff_not, Bool.not_eq_true', Bool.not_eq_false', Bool.not_eq_true, Bool.not_eq_false, Bool.and_eq_true, Bool.or_eq_true, Bool.and_eq_false_iff, Bool.or_eq_false_iff, Bool.not_not, ne_eq, Int.not_lt, Int.not_le, Decidable.not_not, beq_iff_eq, bne_iff_ne] at hc0
    obtain ⟨pk, hpk⟩ : ∃ p, picks[z.k]? = some p := ⟨_, List.getElem?_eq_getElem (by omega)⟩
    obtain ⟨hpk1, hpk2⟩ := hpv pk (List.mem_of_getElem? hpk)
    obtain ⟨pb, jp, hqp, hpE, hmp⟩ := row_mem hP (by omega) (fun b o m => hpre b o (hEp _ m))
    rw [hqp] at hl
    have hq9 := fl_at qc2_len hpk jp
    simp only [qc2] at hq9
    obtain ⟨st, hst⟩ : ∃ s, bs[pk.1]? = some s := ⟨_, List.getElem?_eq_getElem hpk1⟩
    have hstm := List.mem_of_getElem? hst
    have hS := hF.st hst
    have hok := hF.ok st hstm
    have hcore : (bs.map SQ.core)[pk.1]? = some st.core := by rw [List.getElem?_map, hst]; rfl
    obtain ⟨x, hx⟩ : ∃ x, X.xs[pk.2]? = some x := ⟨_, List.getElem?_eq_getElem hpk2⟩
    have hxm := List.mem_of_getElem? hx
    have hxo := hX.ok x hxm
    have hxE : Mem x.E w0 := fun b o m => hpre b o (hX.e x _ hxm m)
    refine wp_skip ?_
    refine then_normal ?_
    refine c_seq ?_
    refine wp_block ?_
    refine c_seq ?_
    refine c_region ?_
    refine wl (wl_val hl rfl trivial (r_move hl rfl) ?_)
    clear hl a; intro a hl
    refine wl (wl_val hl rfl trivial (r_indexS hl rfl rfl slc133 (by omega) (by omega) (by first | (simp only [Int.reduceToNat]; rfl) | exact toNat_add1 _ | exact toNat_add2 _ _ | exact toNat_emod _ _ | exact Int.toNat_natCast _ | rfl)) ?_)
    clear hl a; intro a hl
    first | refine wl (w_loadA hl hh rfl trivial agg181 rfl (by repeat (first | exact find_head | apply find_tail | apply find_skip)) (by first | (simp only [List.getElem?_cons_zero, List.getElem?_cons_succ, Value.cells, List.take_zero, List.take_succ_cons, List.take_nil, List.drop_zero, List.drop_succ_cons, List.drop_nil, List.length_cons, List.length_nil, List.cons_append, List.nil_append, List.append_nil, Nat.zero_add, Nat.add_zero, Nat.reduceAdd, Nat.reduceBEq, Nat.reduceEqDiff, Nat.ble, BEq.rfl, Bool.and_true, Bool.and_self, cond_true, beq_self_eq_true]; rfl)) (by first | rfl | (simp; done)) ?_) | refine wl (w_loadRA hl hh rfl trivial agg181 rfl hmp (by simp) hq9 rfl ?_)
    clear hl a; intro a hl
    refine wl (w_alloc hl hh rfl trivial zero181 rfl ?_)
    clear hl hh a w; intro k9 a w hl hh
    refine wl (wl_val hl rfl trivial (r_assign hl rfl) ?_)
    clear hl a; intro a hl
    refine wl (w_storeA hl hh trivial agg181 rfl rfl (by repeat (first | exact find_head | apply find_tail | apply find_skip)) (by first | rfl | (simp; done)) (by first | (simp; done) | (simp; omega)) (by first | rfl | (simp; done) | rfl) (by first | (simp only [setL, List.getElem?_cons_zero, List.getElem?_cons_succ, Value.cells, List.take_zero, List.take_succ_cons, List.take_nil, List.drop_zero, List.drop_succ_cons, List.drop_nil, List.length_cons, List.length_nil, List.cons_append, List.nil_append, List.append_nil, Nat.zero_add, Nat.add_zero, Nat.reduceAdd, Nat.reduceBEq, Nat.reduceEqDiff, Nat.ble, BEq.rfl, Bool.and_true, Bool.and_self, cond_true, beq_self_eq_true]; rfl)) ?_)
    clear hh w; intro w hh
    refine w_nil ?_
    have hl2 := hl.add (t := 0) (hl.add (t := 1) (hl.add (t := 2) (hl.add (t := 7) (hl.add (t := 8) (hl.add (t := 9) (hl.add (t := 17) (hl.add (t := 18) (hl.add (t := 19) (hl.nil) rfl) rfl) rfl) rfl) rfl) rfl) rfl) rfl) rfl; clear hl; have hl := hl2; clear hl2
    refine then_normal ?_
    refine c_seq ?_
    refine c_region ?_
    refine wl (wl_val hl rfl trivial (r_move hl rfl) ?_)
    clear hl a; intro a hl
    refine wl (wl_val hl rfl trivial (r_field hl rfl fld181_0) ?_)
    clear hl a; intro a hl
    refine wl (w_load hl hh rfl trivial one3 rfl (by repeat (first | exact find_head | apply find_tail | apply find_skip)) (by first | rfl) ?_)
    clear hl a; intro a hl
    refine wl (wl_val hl rfl trivial (r_indexS hl rfl rfl slc132 (by omega) (by omega) (by first | (simp only [Int.reduceToNat]; rfl) | exact toNat_add1 _ | exact toNat_add2 _ _ | exact toNat_emod _ _ | exact Int.toNat_natCast _ | rfl)) ?_)
    clear hl a; intro a hl
    refine wl (wl_val hl rfl trivial (r_assign hl rfl) ?_)
    clear hl a; intro a hl
    refine w_nil ?_
    have hl2 := hl.add (t := 0) (hl.add (t := 1) (hl.add (t := 2) (hl.add (t := 7) (hl.add (t := 8) (hl.add (t := 9) (hl.add (t := 10) (hl.add (t := 17) (hl.add (t := 18) (hl.add (t := 19) (hl.nil) rfl) rfl) rfl) rfl) rfl) rfl) rfl) rfl) rfl) rfl; clear hl; have hl := hl2; clear hl2
    refine then_normal ?_
    refine c_seq ?_
    refine c_region ?_
    refine wl (wl_val hl rfl trivial (r_assign hl rfl) ?_)
    clear hl a; intro a hl
    refine w_nil ?_
    have hl2 := hl.add (t := 0) (hl.add (t := 1) (hl.add (t := 2) (hl.add (t := 7) (hl.add (t := 8) (hl.add (t := 9) (hl.add (t := 10) (hl.add (t := 11) (hl.add (t := 17) (hl.add (t := 18) (hl.add (t := 19) (hl.nil) rfl) rfl) rfl) rfl) rfl) rfl) rfl) rfl) rfl) rfl) rfl; clear hl; have hl := hl2; clear hl2
    refine then_normal ?_
    refine c_seq ?_
    refine c_seq ?_
    refine c_region ?_
    refine wl (wl_val hl rfl trivial (r_move hl rfl) ?_)
    clear hl a; intro a hl
    first | refine wl (wl_val hl rfl trivial (r_sub hl rfl rfl (by simp only [Fits]; omega)) ?_) | refine wl (wl_val hl rfl trivial (r_subW hl rfl rfl) ?_)
    clear hl a; intro a hl
    refine wl (wl_val hl rfl trivial (r_assign hl rfl) ?_)
    clear hl a; intro a hl
    refine w_nil ?_
    have hl2 := hl.add (t := 0) (hl.add (t := 1) (hl.add (t := 2) (hl.add (t := 7) (hl.add (t := 9) (hl.add (t := 10) (hl.add (t := 11) (hl.add (t := 12) (hl.add (t := 17) (hl.add (t := 18) (hl.add (t := 19) (hl.nil) rfl) rfl) rfl) rfl) rfl) rfl) rfl) rfl) rfl) rfl) rfl; clear hl; have hl := hl2; clear hl2
    refine then_normal ?_
    refine wp_block ?_
    obtain ⟨KS1, hKS1, hk⟩ := (hl.add (t := 0) (hl.add (t := 1) (hl.add (t := 2) (hl.add (t := 7) (hl.add (t := 9) (hl.add (t := 10) (hl.add (t := 17) (hl.add (t := 18) (hl.add (t := 19) (hl.nil) rfl) rfl) rfl) rfl) rfl) rfl) rfl) rfl) rfl).name
    obtain ⟨HS1, hHS1, hh2⟩ := hh.name (keeps_nil)
    refine c_loop (α := Nat × Bool) (fun s => s.1) (fun s a w => (s.1 ≤ z.k ∧ (s.2 = false → twL X.B X.oc st.core picks pk x.l z.k = twL X.B X.oc st.core picks pk x.l s.1) ∧ (s.2 = true → twL X.B X.oc st.core picks pk x.l z.k = true)) ∧ Sl 95 ([(12, .int .i64 ((s.1 : Int) - 1)), (11, .bool s.2)] ++ KS1) a ∧ Has _ w0 ([] ++ HS1) w) (z.k, false) ⟨⟨Nat.le_refl _, fun _ => rfl, fun h => by cases h⟩, hl.addE (t := 12) (hl.addE (t := 11) (hk) rfl (by first | exact congrArg (Value.int .i64) (by simp) | rfl)) rfl (by first | exact congrArg (Value.int .i64) (by simp) | rfl), hh2⟩ ?_
    clear hk hh2 hl hh a w
    intro s a w hI
    obtain ⟨⟨hjk, ht1, ht2⟩, hl, hh⟩ := hI
    subst hKS1; subst hHS1
    simp only [List.cons_append, List.nil_append, List.append_nil, List.append_assoc] at hl hh
    obtain ⟨jn, tw⟩ := s
    simp only at hjk ht1 ht2 hl hh
    refine c_seq ?_
    refine c_seq ?_
    refine c_draw [(pb, C (fl qc2 picks ++ jp) 181), (k9, C [.int .i64 (pk.1 : Int), .int .i64 (pk.2 : Int)] 181)] [10, 11, 12, 13, 14, 15] mixed hh ?_
    clear hh w; intro w hh
    have hM : Mem [(pb, C (fl qc2 picks ++ jp) 181), (k9, C [.int .i64 (pk.1 : Int), .int .i64 (pk.2 : Int)] 181)] w := (by (repeat (first | exact Mem.nil | refine Mem.consR hh (by assumption) (by simp) ?_ | refine Mem.cons hh.mem (by (repeat (first | exact find_head | apply find_tail | apply find_skip)); done) ?_ | fail)); done)
    refine d_take (i := 0) hl rfl (by kernel_rfl) (by kernel_rfl) (by kernel_rfl) (by kernel_rfl) (by kernel_rfl) rfl trivial (fun _ _ _ h => h) hM (fun w hC => r_move hl rfl) rfl ?_
    clear hl a; intro a hl
    refine d_take (i := 1) hl rfl (by kernel_rfl) (by kernel_rfl) (by kernel_rfl) (by kernel_rfl) (by kernel_rfl) rfl trivial (fun _ _ _ h => h) hM (fun w hC => r_geq hl rfl rfl) rfl ?_
    clear hl a; intro a hl
    refine d_take (i := 2) hl rfl (by kernel_rfl) (by kernel_rfl) (by kernel_rfl) (by kernel_rfl) (by kernel_rfl) rfl trivial (fun _ _ _ h => h) hM (fun w hC => r_move hl rfl) rfl ?_
    clear hl a; intro a hl
    refine sl_split (t := 32) hl rfl ?_ ?_
    · intro hg1; clear hl; intro hl
      try simp only [decide_eq_true_eq, decide_eq_false_iff_not, Bool.not_eq_true', Bool.not_eq_false', Bool.not_eq_true, Bool.not_eq_false, Bool.and_eq_true, Bool.or_eq_true, Bool.and_eq_false_iff, Bool.or_eq_false_iff, Bool.not_not, ne_eq, Int.not_lt, Int.not_le, Decidable.not_not, beq_iff_eq, bne_iff_ne] at hg1
      refine d_take (i := 3) hl rfl (by kernel_rfl) (by kernel_rfl) (by kernel_rfl) (by kernel_rfl) (by kernel_rfl) rfl ⟨_, _, rfl, rfl, rfl⟩ (fun _ _ _ h => h) hM (fun w hC => r_move hl rfl) rfl ?_
      clear hl a; intro a hl
      obtain ⟨j, hj⟩ : ∃ j, jn = j + 1 := ⟨jn - 1, by omega⟩
      subst hj
      obtain ⟨pr, hpr⟩ : ∃ q, picks[j]? = some q := ⟨_, List.getElem?_eq_getElem (by omega)⟩
      have hqr := fl_at qc2_len hpr jp
      simp only [qc2] at hqr
      rw [show (((j + 1 : Nat) : Int) - 1) = (j : Int) by omega] at hl
      refine d_take (i := 4) hl rfl (by kernel_rfl) (by kernel_rfl) (by kernel_rfl) (by kernel_rfl) (by kernel_rfl) rfl ⟨_, _, rfl, rfl, rfl⟩ (fun _ _ _ h => h) hM (fun w hC => r_move hl rfl) rfl ?_
      clear hl a; intro a hl
      refine d_take (i := 5) hl rfl (by kernel_rfl) (by kernel_rfl) (by kernel_rfl) (by kernel_rfl) (by kernel_rfl) rfl ⟨_, _, rfl, rfl, rfl⟩ (fun _ _ _ h => h) hM (fun w hC => r_indexS hl rfl rfl slc133 (by omega) (by omega) (by first | (simp only [Int.reduceToNat]; rfl) | exact toNat_add1 _ | exact toNat_add2 _ _ | exact toNat_emod _ _ | exact Int.toNat_natCast _ | rfl)) rfl ?_
      clear hl a; intro a hl
      refine d_take (i := 6) hl rfl (by kernel_rfl) (by kernel_rfl) (by kernel_rfl) (by kernel_rfl) (by kernel_rfl) rfl ⟨_, _, rfl, rfl, rfl⟩ (fun _ _ _ h => h) hM (fun w hC => r_field hl rfl fld181_0) rfl ?_
      clear hl a; intro a hl
      refine d_take (i := 7) hl rfl (by kernel_rfl) (by kernel_rfl) (by kernel_rfl) (by kernel_rfl) (by kernel_rfl) rfl ⟨_, _, rfl, rfl, rfl⟩ (fun _ _ _ h => h) hM (fun w hC => r_loadC hl rfl one3 hC (by repeat (first | exact find_head | apply find_tail | apply find_skip)) (by exact cellz (j := 0) hqr rfl rfl)) rfl ?_
      clear hl a; intro a hl
      refine d_take (i := 8) hl rfl (by kernel_rfl) (by kernel_rfl) (by kernel_rfl) (by kernel_rfl) (by kernel_rfl) rfl ⟨_, _, rfl, rfl, rfl⟩ (fun _ _ _ h => h) hM (fun w hC => r_field hl rfl fld181_0) rfl ?_
      clear hl a; intro a hl
      refine d_take (i := 9) hl rfl (by kernel_rfl) (by kernel_rfl) (by kernel_rfl) (by kernel_rfl) (by kernel_rfl) rfl ⟨_, _, rfl, rfl, rfl⟩ (fun _ _ _ h => h) hM (fun w hC => r_loadC hl rfl one3 hC (by repeat (first | exact find_head | apply find_tail | apply find_skip)) (by first | rfl)) rfl ?_
      clear hl a; intro a hl
      refine d_takeL (i := 10) hl rfl (by kernel_rfl) (by kernel_rfl) (by kernel_rfl) (by kernel_rfl) (by kernel_rfl) rfl ⟨_, _, rfl, rfl, rfl⟩ (fun _ _ _ h => h) (fun w => r_eql hl rfl rfl) rfl ?_
      clear hl a; intro a hl
      refine d_takeL (i := 11) hl rfl (by kernel_rfl) (by kernel_rfl) (by kernel_rfl) (by kernel_rfl) (by kernel_rfl) rfl trivial (fun _ _ _ h => h) (fun w => r_pickT hl rfl rfl) rfl ?_
      clear hl a; intro a hl
      refine d_takeL (i := 12) hl rfl (by kernel_rfl) (by kernel_rfl) (by kernel_rfl) (by kernel_rfl) (by kernel_rfl) rfl trivial (fun _ _ _ h => h) (fun w => r_move hl rfl) rfl ?_
      clear hl a; intro a hl
      refine sl_split (t := 42) hl rfl ?_ ?_
      · intro hg2; clear hl; intro hl
        try simp only [decide_eq_true_eq, decide_eq_false_iff_not, Bool.not_eq_true', Bool.not_eq_false', Bool.not_eq_true, Bool.not_eq_false, Bool.and_eq_true, Bool.or_eq_true, Bool.and_eq_false_iff, Bool.or_eq_false_iff, Bool.not_not, ne_eq, Int.not_lt, Int.not_le, Decidable.not_not, beq_iff_eq, bne_iff_ne] at hg2
        refine d_takeL (i := 13) hl rfl (by kernel_rfl) (by kernel_rfl) (by kernel_rfl) (by kernel_rfl) (by kernel_rfl) rfl ⟨_, _, rfl, rfl, rfl⟩ (fun _ _ _ h => h) (fun w => r_move hl rfl) rfl ?_
        clear hl a; intro a hl
        refine d_takeL (i := 14) hl rfl (by kernel_rfl) (by kernel_rfl) (by kernel_rfl) (by kernel_rfl) (by kernel_rfl) rfl ⟨_, _, rfl, rfl, rfl⟩ (fun _ _ _ h => h) (fun w => r_not hl rfl) rfl ?_
        clear hl a; intro a hl
        refine d_takeL (i := 15) hl rfl (by kernel_rfl) (by kernel_rfl) (by kernel_rfl) (by kernel_rfl) (by kernel_rfl) rfl trivial (fun _ _ _ h => h) (fun w => r_pickT hl rfl rfl) rfl ?_
        clear hl a; intro a hl
        refine d_done (by kernel_rfl) ?_
        try clear hM
        have hl2 := hl.add (t := 0) (hl.add (t := 1) (hl.add (t := 2) (hl.add (t := 7) (hl.add (t := 9) (hl.add (t := 10) (hl.add (t := 11) (hl.add (t := 12) (hl.add (t := 17) (hl.add (t := 18) (hl.add (t := 19) (hl.add (t := 45) (hl.nil) rfl) rfl) rfl) rfl) rfl) rfl) rfl) rfl) rfl) rfl) rfl) rfl; clear hl; have hl := hl2; clear hl2
        refine then_normal ?_
        refine c_cond hl rfl ?_ ?_
        · intro hc1
          try simp only [decide_eq_true_eq, decide_eq_false_iff_not, Bool.not_eq_true', Bool.not_eq_false', Bool.not_eq_true, Bool.not_eq_false, Bool.and_eq_true, Bool.or_eq_true, Bool.and_eq_false_iff, Bool.or_eq_false_iff, Bool.not_not, ne_eq, Int.not_lt, Int.not_le, Decidable.not_not, beq_iff_eq, bne_iff_ne] at hc1
          obtain ⟨xr, hxr⟩ : ∃ q, X.xs[pr.2]? = some q := ⟨_, List.getElem?_eq_getElem (hpv pr (List.mem_of_getElem? hpr)).2⟩
          refine wp_skip ?_
          refine then_normal ?_
          refine c_seq ?_
          refine wp_block ?_
          refine c_draw [(pb, C (fl qc2 picks ++ jp) 181), (k9, C [.int .i64 (pk.1 : Int), .int .i64 (pk.2 : Int)] 181)] [9, 10] mixed hh ?_
          clear hh w; intro w hh
          have hM : Mem [(pb, C (fl qc2 picks ++ jp) 181), (k9, C [.int .i64 (pk.1 : Int), .int .i64 (pk.2 : Int)] 181)] w := (by (repeat (first | exact Mem.nil | refine Mem.consR hh (by assumption) (by simp) ?_ | refine Mem.cons hh.mem (by (repeat (first | exact find_head | apply find_tail | apply find_skip)); done) ?_ | fail)); done)
          refine d_take (i := 0) hl rfl (by kernel_rfl) (by kernel_rfl) (by kernel_rfl) (by kernel_rfl) (by kernel_rfl) rfl trivial (fun _ _ _ h => h) hM (fun w hC => r_move hl rfl) rfl ?_
          clear hl a; intro a hl
          refine d_take (i := 1) hl rfl (by kernel_rfl) (by kernel_rfl) (by kernel_rfl) (by kernel_rfl) (by kernel_rfl) rfl trivial (fun _ _ _ h => h) hM (fun w hC => r_move hl rfl) rfl ?_
          clear hl a; intro a hl
          refine d_take (i := 2) hl rfl (by kernel_rfl) (by kernel_rfl) (by kernel_rfl) (by kernel_rfl) (by kernel_rfl) rfl trivial (fun _ _ _ h => h) hM (fun w hC => r_move hl rfl) rfl ?_
          clear hl a; intro a hl
          refine d_take (i := 3) hl rfl (by kernel_rfl) (by kernel_rfl) (by kernel_rfl) (by kernel_rfl) (by kernel_rfl) rfl trivial (fun _ _ _ h => h) hM (fun w hC => r_move hl rfl) rfl ?_
          clear hl a; intro a hl
          refine d_take (i := 4) hl rfl (by kernel_rfl) (by kernel_rfl) (by kernel_rfl) (by kernel_rfl) (by kernel_rfl) rfl trivial (fun _ _ _ h => h) hM (fun w hC => r_indexS hl rfl rfl slc133 (by omega) (by omega) (by first | (simp only [Int.reduceToNat]; rfl) | exact toNat_add1 _ | exact toNat_add2 _ _ | exact toNat_emod _ _ | exact Int.toNat_natCast _ | rfl)) rfl ?_
          clear hl a; intro a hl
          refine d_take (i := 5) hl rfl (by kernel_rfl) (by kernel_rfl) (by kernel_rfl) (by kernel_rfl) (by kernel_rfl) rfl trivial (fun _ _ _ h => h) hM (fun w hC => r_field hl rfl fld181_1) rfl ?_
          clear hl a; intro a hl
          refine d_take (i := 6) hl rfl (by kernel_rfl) (by kernel_rfl) (by kernel_rfl) (by kernel_rfl) (by kernel_rfl) rfl trivial (fun _ _ _ h => h) hM (fun w hC => r_loadC hl rfl one3 hC (by repeat (first | exact find_head | apply find_tail | apply find_skip)) (by exact cellz (j := 1) hqr rfl rfl)) rfl ?_
          clear hl a; intro a hl
          refine d_take (i := 7) hl rfl (by kernel_rfl) (by kernel_rfl) (by kernel_rfl) (by kernel_rfl) (by kernel_rfl) rfl trivial (fun _ _ _ h => h) hM (fun w hC => r_field hl rfl fld181_1) rfl ?_
          clear hl a; intro a hl
          refine d_take (i := 8) hl rfl (by kernel_rfl) (by kernel_rfl) (by kernel_rfl) (by kernel_rfl) (by kernel_rfl) rfl trivial (fun _ _ _ h => h) hM (fun w hC => r_loadC hl rfl one3 hC (by repeat (first | exact find_head | apply find_tail | apply find_skip)) (by first | rfl)) rfl ?_
          clear hl a; intro a hl
          refine d_one (i := 9) (by kernel_rfl) rfl ?_
          try clear hM
          refine id (w_call hl hh rfl trivial rfl cal87 rfl (twins_spec X Z hX st fb (0 + pk.1 * 3) (fl SQ.cells bs ++ jf) hS hok pr.2 pk.2 xr x hxr hx) (by repeat (first | exact keeps_nil | apply keeps_cons (by repeat (first | exact find_head | apply find_tail | apply find_skip)) (by first  | rfl) | exact keeps_self | exact keeps_left | apply keeps_app | apply keeps_mv | apply keeps_skip)) (mem_keep hh hpre) ?_)
          clear hl hh a w; intro vc Fc a w hR hl hh
          obtain ⟨rfl, rfl⟩ := hR
          try simp only [List.cons_append, List.nil_append, List.append_assoc, List.append_nil] at hh
          refine d_step (fun h => absurd h (by decide)) ?_
          refine d_takeL (i := 10) hl rfl (by kernel_rfl) (by kernel_rfl) (by kernel_rfl) (by kernel_rfl) (by kernel_rfl) rfl trivial (fun _ _ _ h => h) (fun w => r_assign hl rfl) rfl ?_
          clear hl a; intro a hl
          refine d_done (by kernel_rfl) ?_
          try clear hM
          have hl2 := hl.add (t := 0) (hl.add (t := 1) (hl.add (t := 2) (hl.add (t := 7) (hl.add (t := 9) (hl.add (t := 10) (hl.add (t := 11) (hl.add (t := 12) (hl.add (t := 17) (hl.add (t := 18) (hl.add (t := 19) (hl.nil) rfl) rfl) rfl) rfl) rfl) rfl) rfl) rfl) rfl) rfl) rfl; clear hl; have hl := hl2; clear hl2
          refine blk_normal ?_
          refine then_normal ?_
          refine c_region ?_
          refine wl (wl_val hl rfl trivial (r_move hl rfl) ?_)
          clear hl a; intro a hl
          first | refine wl (wl_val hl rfl trivial (r_sub hl rfl rfl (by simp only [Fits]; omega)) ?_) | refine wl (wl_val hl rfl trivial (r_subW hl rfl rfl) ?_)
          clear hl a; intro a hl
          refine wl (wl_val hl rfl trivial (r_assign hl rfl) ?_)
          clear hl a; intro a hl
          refine w_nil ?_
          have hl2 := hl.add (t := 0) (hl.add (t := 1) (hl.add (t := 2) (hl.add (t := 7) (hl.add (t := 9) (hl.add (t := 10) (hl.add (t := 11) (hl.add (t := 12) (hl.add (t := 17) (hl.add (t := 18) (hl.add (t := 19) (hl.nil) rfl) rfl) rfl) rfl) rfl) rfl) rfl) rfl) rfl) rfl) rfl; clear hl; have hl := hl2; clear hl2
          refine then_normal ?_
          refine ⟨(j, twinP X.oc st.num st.pl pr.2 pk.2 xr.l x.l), (by simp only; omega), ⟨by simp only; omega, fun h => (ht1 (by first | assumption | simp_all)).trans (twL_no hpr (by omega) (X.at_ hxr) h), fun h => (ht1 (by first | assumption | simp_all)).trans (twL_yes hpr (by omega) (X.at_ hxr) h)⟩, hl.addE (t := 12) (hl.addE (t := 11) (hl.addE (t := 0) (hl.addE (t := 1) (hl.addE (t := 2) (hl.addE (t := 7) (hl.addE (t := 9) (hl.addE (t := 10) (hl.addE (t := 17) (hl.addE (t := 18) (hl.addE (t := 19) (hl.nil) rfl (by first | rfl | rfl | exact congrArg (Value.int .i64) (by simp only; omega))) rfl (by first | rfl | rfl | exact congrArg (Value.int .i64) (by simp only; omega))) rfl (by first | rfl | rfl | exact congrArg (Value.int .i64) (by simp only; omega))) rfl (by first | rfl | rfl | exact congrArg (Value.int .i64) (by simp only; omega))) rfl (by first | rfl | rfl | exact congrArg (Value.int .i64) (by simp only; omega))) rfl (by first | rfl | rfl | exact congrArg (Value.int .i64) (by simp only; omega))) rfl (by first | rfl | rfl | exact congrArg (Value.int .i64) (by simp only; omega))) rfl (by first | rfl | rfl | exact congrArg (Value.int .i64) (by simp only; omega))) rfl (by first | rfl | rfl | exact congrArg (Value.int .i64) (by simp only; omega))) rfl (by first | rfl | rfl | exact congrArg (Value.int .i64) (by simp only; omega))) rfl (by first | rfl | rfl | exact congrArg (Value.int .i64) (by simp only; omega)), hh.keep (by repeat (first | exact keeps_nil | apply keeps_cons (by repeat (first | exact find_head | apply find_tail | apply find_skip)) (by first  | rfl) | exact keeps_self | exact keeps_left | apply keeps_app | apply keeps_mv | apply keeps_skip))⟩
        · intro hc1
          try simp only [decide_eq_true_eq, decide_eq_false_iff_not, Bool.not_eq_true', Bool.not_eq_false', Bool.not_eq_true, Bool.not_eq_false, Bool.and_eq_true, Bool.or_eq_true, Bool.and_eq_false_iff, Bool.or_eq_false_iff, Bool.not_not, ne_eq, Int.not_lt, Int.not_le, Decidable.not_not, beq_iff_eq, bne_iff_ne] at hc1
          have htw : twL X.B X.oc st.core picks pk x.l z.k = tw := by
            cases htw0 : tw with
            | true => exact ht2 htw0
            | false =>
              rw [ht1 htw0]
              first | (exfalso; simp_all; done) | (have h0 : jn = 0 := (by omega); rw [h0]; rfl) | exact twL_ne hpr (by omega)
          refine wp_exit ?_
          refine then_exit ?_
          refine then_exit ?_
          refine blk_exit ?_
          refine then_normal ?_
          refine c_seq ?_
          refine c_seq ?_
          refine c_region ?_
          refine wl (wl_val hl rfl trivial (r_move hl rfl) ?_)
          clear hl a; intro a hl
          refine w_nil ?_
          have hl2 := hl.add (t := 0) (hl.add (t := 1) (hl.add (t := 2) (hl.add (t := 7) (hl.add (t := 9) (hl.add (t := 10) (hl.add (t := 17) (hl.add (t := 18) (hl.add (t := 19) (hl.add (t := 58) (hl.nil) rfl) rfl) rfl) rfl) rfl) rfl) rfl) rfl) rfl) rfl; clear hl; have hl := hl2; clear hl2
          refine then_normal ?_
          refine c_cond hl rfl ?_ ?_
          · intro hc2
            try simp only [decide_eq_true_eq, decide_eq_false_iff_not, Bool.not_eq_true', Bool.not_eq_false', Bool.not_eq_true, Bool.not_eq_false, Bool.and_eq_true, Bool.or_eq_true, Bool.and_eq_false_iff, Bool.or_eq_false_iff, Bool.not_not, ne_eq, Int.not_lt, Int.not_le, Decidable.not_not, beq_iff_eq, bne_iff_ne] at hc2
            have htw9 : twL X.B X.oc st.core picks pk x.l z.k = true := by rw [htw]; first | exact hc2 | simp_all
            refine wp_exit ?_
            refine then_exit ?_
            refine blk_exit ?_
            refine then_normal ?_
            refine c_region ?_
            first | refine wl (wl_val hl rfl trivial (r_add hl rfl rfl (by simp only [Fits]; omega)) ?_) | refine wl (wl_val hl rfl trivial (r_addW hl rfl rfl) ?_)
            clear hl a; intro a hl
            refine wl (wl_val hl rfl trivial (r_move hl rfl) ?_)
            clear hl a; intro a hl
            refine w_nil ?_
            have hl2 := hl.add (t := 0) (hl.add (t := 1) (hl.add (t := 2) (hl.add (t := 7) (hl.add (t := 17) (hl.add (t := 18) (hl.add (t := 19) (hl.nil) rfl) rfl) rfl) rfl) rfl) rfl) rfl; clear hl; have hl := hl2; clear hl2
            refine then_normal ?_
            refine ⟨⟨z.k + 1, z.nbs, z.p, z.c, z.E⟩, (by simp only; omega), ⟨by simp only; omega, hI.co.trans (follow_yes hpk hcore (X.at_ hx) htw9).symm, by simp only; omega, hI.row, hI.ok⟩, hl.addE (t := 19) (hl.addE (t := 7) (hl.addE (t := 0) (hl.addE (t := 1) (hl.addE (t := 2) (hl.addE (t := 17) (hl.addE (t := 18) (hl.nil) rfl (by first | rfl | exact congrArg (Value.int .i64) (show (z.k : Int) + 1 = ((z.k + 1 : Nat) : Int) by omega) | (rw [hqp]) | (simp [List.length_append]; done))) rfl (by first | rfl | exact congrArg (Value.int .i64) (show (z.k : Int) + 1 = ((z.k + 1 : Nat) : Int) by omega) | (rw [hqp]) | (simp [List.length_append]; done))) rfl (by first | rfl | exact congrArg (Value.int .i64) (show (z.k : Int) + 1 = ((z.k + 1 : Nat) : Int) by omega) | (rw [hqp]) | (simp [List.length_append]; done))) rfl (by first | rfl | exact congrArg (Value.int .i64) (show (z.k : Int) + 1 = ((z.k + 1 : Nat) : Int) by omega) | (rw [hqp]) | (simp [List.length_append]; done))) rfl (by first | rfl | exact congrArg (Value.int .i64) (show (z.k : Int) + 1 = ((z.k + 1 : Nat) : Int) by omega) | (rw [hqp]) | (simp [List.length_append]; done))) rfl (by first | rfl | exact congrArg (Value.int .i64) (show (z.k : Int) + 1 = ((z.k + 1 : Nat) : Int) by omega) | (rw [hqp]) | (simp [List.length_append]; done))) rfl (by first | rfl | exact congrArg (Value.int .i64) (show (z.k : Int) + 1 = ((z.k + 1 : Nat) : Int) by omega) | (rw [hqp]) | (simp [List.length_append]; done)), hh.keep (by repeat (first | exact keeps_nil | apply keeps_cons (by repeat (first | exact find_head | apply find_tail | apply find_skip)) (by first  | rfl) | exact keeps_self | exact keeps_left | apply keeps_app | apply keeps_mv | apply keeps_skip))⟩
          · intro hc2
            try simp only [decide_eq_true_eq, decide_eq_false_iff_not, Bool.not_eq_true', Bool.not_eq_false', Bool.not_eq_true, Bool.not_eq_false, Bool.and_eq_true, Bool.or_eq_true, Bool.and_eq_false_iff, Bool.or_eq_false_iff, Bool.not_not, ne_eq, Int.not_lt, Int.not_le, Decidable.not_not, beq_iff_eq, bne_iff_ne] at hc2
            have htw9 : twL X.B X.oc st.core picks pk x.l z.k = false := by rw [htw]; first | exact hc2 | simp_all
            refine wp_skip ?_
            refine then_normal ?_
            refine c_seq ?_
            refine c_draw [(fb, C (fl SQ.cells bs ++ jf) 129), (k9, C [.int .i64 (pk.1 : Int), .int .i64 (pk.2 : Int)] 181)] [20] mixed hh ?_
            clear hh w; intro w hh
            have hM : Mem [(fb, C (fl SQ.cells bs ++ jf) 129), (k9, C [.int .i64 (pk.1 : Int), .int .i64 (pk.2 : Int)] 181)] w := (by (repeat (first | exact Mem.nil | refine Mem.consR hh (by assumption) (by simp) ?_ | refine Mem.cons hh.mem (by (repeat (first | exact find_head | apply find_tail | apply find_skip)); done) ?_ | fail)); done)
            refine d_take (i := 0) hl rfl (by kernel_rfl) (by kernel_rfl) (by kernel_rfl) (by kernel_rfl) (by kernel_rfl) rfl trivial (fun _ _ _ h => h) hM (fun w hC => r_move hl rfl) rfl ?_
            clear hl a; intro a hl
            refine d_take (i := 1) hl rfl (by kernel_rfl) (by kernel_rfl) (by kernel_rfl) (by kernel_rfl) (by kernel_rfl) rfl trivial (fun _ _ _ h => h) hM (fun w hC => r_nilCheck hl rfl) rfl ?_
            clear hl a; intro a hl
            refine d_take (i := 2) hl rfl (by kernel_rfl) (by kernel_rfl) (by kernel_rfl) (by kernel_rfl) (by kernel_rfl) rfl trivial (fun _ _ _ h => h) hM (fun w hC => r_field hl rfl fld129_0) rfl ?_
            clear hl a; intro a hl
            refine d_take (i := 3) hl rfl (by kernel_rfl) (by kernel_rfl) (by kernel_rfl) (by kernel_rfl) (by kernel_rfl) rfl trivial (fun _ _ _ h => h) hM (fun w hC => r_loadC hl rfl one49 hC (by repeat (first | exact find_head | apply find_tail | apply find_skip)) (by exact hS.at_.1)) rfl ?_
            clear hl a; intro a hl
            refine d_take (i := 4) hl rfl (by kernel_rfl) (by kernel_rfl) (by kernel_rfl) (by kernel_rfl) (by kernel_rfl) rfl trivial (fun _ _ _ h => h) hM (fun w hC => r_field hl rfl fld181_1) rfl ?_
            clear hl a; intro a hl
            refine d_take (i := 5) hl rfl (by kernel_rfl) (by kernel_rfl) (by kernel_rfl) (by kernel_rfl) (by kernel_rfl) rfl trivial (fun _ _ _ h => h) hM (fun w hC => r_loadC hl rfl one3 hC (by repeat (first | exact find_head | apply find_tail | apply find_skip)) (by first | rfl)) rfl ?_
            clear hl a; intro a hl
            first | refine d_take (i := 6) hl rfl (by kernel_rfl) (by kernel_rfl) (by kernel_rfl) (by kernel_rfl) (by kernel_rfl) rfl trivial (fun _ _ _ h => h) hM (fun w hC => r_conv hl rfl Tryz.underlying3 Tryz.underlying106 (by simp only [Fits]; omega)) rfl ?_ | refine d_take (i := 6) hl rfl (by kernel_rfl) (by kernel_rfl) (by kernel_rfl) (by kernel_rfl) (by kernel_rfl) rfl trivial (fun _ _ _ h => h) hM (fun w hC => r_convW hl rfl Tryz.underlying3 Tryz.underlying106) rfl ?_
            clear hl a; intro a hl
            refine d_take (i := 7) hl rfl (by kernel_rfl) (by kernel_rfl) (by kernel_rfl) (by kernel_rfl) (by kernel_rfl) rfl trivial (fun _ _ _ h => h) hM (fun w hC => r_shl hl rfl rfl (by omega)) rfl ?_
            clear hl a; intro a hl
            rw [sh64_eq] at hl
            refine d_take (i := 8) hl rfl (by kernel_rfl) (by kernel_rfl) (by kernel_rfl) (by kernel_rfl) (by kernel_rfl) rfl trivial (fun _ _ _ h => h) hM (fun w hC => r_or hl rfl rfl) rfl ?_
            clear hl a; intro a hl
            refine d_take (i := 9) hl rfl (by kernel_rfl) (by kernel_rfl) (by kernel_rfl) (by kernel_rfl) (by kernel_rfl) rfl trivial (fun _ _ _ h => h) hM (fun w hC => r_move hl rfl) rfl ?_
            clear hl a; intro a hl
            refine d_take (i := 10) hl rfl (by kernel_rfl) (by kernel_rfl) (by kernel_rfl) (by kernel_rfl) (by kernel_rfl) rfl trivial (fun _ _ _ h => h) hM (fun w hC => r_nilCheck hl rfl) rfl ?_
            clear hl a; intro a hl
            refine d_take (i := 11) hl rfl (by kernel_rfl) (by kernel_rfl) (by kernel_rfl) (by kernel_rfl) (by kernel_rfl) rfl trivial (fun _ _ _ h => h) hM (fun w hC => r_field hl rfl fld129_1) rfl ?_
            clear hl a; intro a hl
            refine d_take (i := 12) hl rfl (by kernel_rfl) (by kernel_rfl) (by kernel_rfl) (by kernel_rfl) (by kernel_rfl) rfl trivial (fun _ _ _ h => h) hM (fun w hC => r_loadC hl rfl one58 hC (by repeat (first | exact find_head | apply find_tail | apply find_skip)) (by exact hS.at_.2.1)) rfl ?_
            clear hl a; intro a hl
            refine d_take (i := 14) hl rfl (by kernel_rfl) (by kernel_rfl) (by kernel_rfl) (by kernel_rfl) (by kernel_rfl) rfl trivial (fun _ _ _ h => h) hM (fun w hC => r_move hl rfl) rfl ?_
            clear hl a; intro a hl
            refine d_take (i := 15) hl rfl (by kernel_rfl) (by kernel_rfl) (by kernel_rfl) (by kernel_rfl) (by kernel_rfl) rfl trivial (fun _ _ _ h => h) hM (fun w hC => r_nilCheck hl rfl) rfl ?_
            clear hl a; intro a hl
            refine d_take (i := 16) hl rfl (by kernel_rfl) (by kernel_rfl) (by kernel_rfl) (by kernel_rfl) (by kernel_rfl) rfl trivial (fun _ _ _ h => h) hM (fun w hC => r_field hl rfl fld129_2) rfl ?_
            clear hl a; intro a hl
            refine d_take (i := 17) hl rfl (by kernel_rfl) (by kernel_rfl) (by kernel_rfl) (by kernel_rfl) (by kernel_rfl) rfl trivial (fun _ _ _ h => h) hM (fun w hC => r_loadC hl rfl one3 hC (by repeat (first | exact find_head | apply find_tail | apply find_skip)) (by exact hS.at_.2.2)) rfl ?_
            clear hl a; intro a hl
            refine d_two (i := 13) (j := 19) (by kernel_rfl) rfl rfl ?_ ?_
            ·
              try clear hM
              refine id (w_appendCopy hl hh rfl trivial app58 rfl rfl rfl hok.n.row (fun b o m => heap_keep hh (hpre _ _ (hS.nb _ m))) (fl_one1 iI_one _) (by have := hok.len; have := hX.v6; omega) (by have := hok.len; have := hX.v6; omega) (by decide) ?_)
              clear hl hh a w; intro rv3 E3 a w hR3 hl hh
              have hh3 := hh.comm; clear hh; have hh := hh3; clear hh3
              try simp only [List.cons_append, List.nil_append, List.append_assoc, List.append_nil] at hh
              obtain ⟨np9, nc9, hv9⟩ := row_val hR3
              subst hv9
              obtain ⟨jn9, hE9, hN9⟩ := row_nok hR3
              subst hE9
              have hM : Mem [(fb, C (fl SQ.cells bs ++ jf) 129), (k9, C [.int .i64 (pk.1 : Int), .int .i64 (pk.2 : Int)] 181)] w := (by (repeat (first | exact Mem.nil | refine Mem.consR hh (by assumption) (by simp) ?_ | refine Mem.cons hh.mem (by (repeat (first | exact find_head | apply find_tail | apply find_skip)); done) ?_ | fail)); done)
              refine d_step (fun _ => hM) ?_
              refine d_take (i := 18) hl rfl (by kernel_rfl) (by kernel_rfl) (by kernel_rfl) (by kernel_rfl) (by kernel_rfl) rfl trivial (fun _ _ _ h => h) hM (fun w hC => r_build hl rfl zero129 bld129 (by simp only [fillL, setL, List.getElem?_cons_zero, List.getElem?_cons_succ, Value.cells, List.take_zero, List.take_succ_cons, List.take_nil, List.drop_zero, List.drop_succ_cons, List.drop_nil, List.length_cons, List.length_nil, List.cons_append, List.nil_append, List.append_nil, Nat.zero_add, Nat.add_zero, Nat.reduceAdd, Nat.reduceBEq, Nat.reduceEqDiff, Nat.ble, BEq.rfl, Bool.and_true, Bool.and_self, cond_true, beq_self_eq_true]; rfl)) rfl ?_
              clear hl a; intro a hl
              refine d_one (i := 19) (by kernel_rfl) rfl ?_
              try clear hM
              refine id (w_alloc hl hh rfl trivial zero129 rfl ?_)
              clear hl hh a w; intro k13 a w hl hh
              have hM : Mem [(fb, C (fl SQ.cells bs ++ jf) 129), (k9, C [.int .i64 (pk.1 : Int), .int .i64 (pk.2 : Int)] 181)] w := (by (repeat (first | exact Mem.nil | refine Mem.consR hh (by assumption) (by simp) ?_ | refine Mem.cons hh.mem (by (repeat (first | exact find_head | apply find_tail | apply find_skip)); done) ?_ | fail)); done)
              refine d_step (fun _ => hM) ?_
              refine d_one (i := 20) (by kernel_rfl) rfl ?_
              try clear hM
              refine id (w_storeA hl hh trivial agg129 rfl rfl (by repeat (first | exact find_head | apply find_tail | apply find_skip)) (by first | rfl | (simp; done)) (by first | (simp; done) | (simp; omega)) (by first | rfl | (simp; done) | rfl) (by first | (simp only [setL, List.getElem?_cons_zero, List.getElem?_cons_succ, Value.cells, List.take_zero, List.take_succ_cons, List.take_nil, List.drop_zero, List.drop_succ_cons, List.drop_nil, List.length_cons, List.length_nil, List.cons_append, List.nil_append, List.append_nil, Nat.zero_add, Nat.add_zero, Nat.reduceAdd, Nat.reduceBEq, Nat.reduceEqDiff, Nat.ble, BEq.rfl, Bool.and_true, Bool.and_self, cond_true, beq_self_eq_true]; rfl)) ?_)
              clear hh w; intro w hh
              refine d_step (fun h => absurd h (by decide)) ?_
              refine d_done (by kernel_rfl) ?_
              try clear hM
              have hl2 := hl.add (t := 0) (hl.add (t := 1) (hl.add (t := 2) (hl.add (t := 7) (hl.add (t := 9) (hl.add (t := 13) (hl.add (t := 17) (hl.add (t := 18) (hl.add (t := 19) (hl.nil) rfl) rfl) rfl) rfl) rfl) rfl) rfl) rfl) rfl; clear hl; have hl := hl2; clear hl2
              refine then_normal ?_
              refine c_seq ?_
              refine c_draw [(X.sb, C [.string X.hs, X.hv, .slice (some ⟨X.bb, 0, none⟩) X.xs.length X.xs.length, .int .i64 (X.vs : Int), .slice (some ⟨X.ob, 0, none⟩) X.vs X.vs] 127), (X.bb, C (fl LV.c4 X.xs) 48), (k9, C [.int .i64 (pk.1 : Int), .int .i64 (pk.2 : Int)] 181)] [10] mixed hh ?_
              clear hh w; intro w hh
              have hM : Mem [(X.sb, C [.string X.hs, X.hv, .slice (some ⟨X.bb, 0, none⟩) X.xs.length X.xs.length, .int .i64 (X.vs : Int), .slice (some ⟨X.ob, 0, none⟩) X.vs X.vs] 127), (X.bb, C (fl LV.c4 X.xs) 48), (k9, C [.int .i64 (pk.1 : Int), .int .i64 (pk.2 : Int)] 181)] w := (by (repeat (first | exact Mem.nil | refine Mem.consR hh (by assumption) (by simp) ?_ | refine Mem.cons hh.mem (by (repeat (first | exact find_head | apply find_tail | apply find_skip)); done) ?_ | fail)); done)
              refine d_take (i := 0) hl rfl (by kernel_rfl) (by kernel_rfl) (by kernel_rfl) (by kernel_rfl) (by kernel_rfl) rfl trivial (fun _ _ _ h => h) hM (fun w hC => r_move hl rfl) rfl ?_
              clear hl a; intro a hl
              refine d_take (i := 1) hl rfl (by kernel_rfl) (by kernel_rfl) (by kernel_rfl) (by kernel_rfl) (by kernel_rfl) rfl trivial (fun _ _ _ h => h) hM (fun w hC => r_nilCheck hl rfl) rfl ?_
              clear hl a; intro a hl
              refine d_take (i := 2) hl rfl (by kernel_rfl) (by kernel_rfl) (by kernel_rfl) (by kernel_rfl) (by kernel_rfl) rfl trivial (fun _ _ _ h => h) hM (fun w hC => r_field hl rfl fld127_1) rfl ?_
              clear hl a; intro a hl
              refine d_take (i := 3) hl rfl (by kernel_rfl) (by kernel_rfl) (by kernel_rfl) (by kernel_rfl) (by kernel_rfl) rfl trivial (fun _ _ _ h => h) hM (fun w hC => r_loadC hl rfl one55 hC (by repeat (first | exact find_head | apply find_tail | apply find_skip)) (by rfl)) rfl ?_
              clear hl a; intro a hl
              refine d_take (i := 4) hl rfl (by kernel_rfl) (by kernel_rfl) (by kernel_rfl) (by kernel_rfl) (by kernel_rfl) rfl trivial (fun _ _ _ h => h) hM (fun w hC => r_field hl rfl fld181_1) rfl ?_
              clear hl a; intro a hl
              refine d_take (i := 5) hl rfl (by kernel_rfl) (by kernel_rfl) (by kernel_rfl) (by kernel_rfl) (by kernel_rfl) rfl trivial (fun _ _ _ h => h) hM (fun w hC => r_loadC hl rfl one3 hC (by repeat (first | exact find_head | apply find_tail | apply find_skip)) (by first | rfl)) rfl ?_
              clear hl a; intro a hl
              refine d_take (i := 6) hl rfl (by kernel_rfl) (by kernel_rfl) (by kernel_rfl) (by kernel_rfl) (by kernel_rfl) rfl trivial (fun _ _ _ h => h) hM (fun w hC => r_indexS hl rfl rfl slc55 (by omega) (by omega) (by first | (simp only [Int.reduceToNat]; rfl) | exact toNat_add1 _ | exact toNat_add2 _ _ | exact toNat_emod _ _ | exact Int.toNat_natCast _ | rfl)) rfl ?_
              clear hl a; intro a hl
              refine d_take (i := 7) hl rfl (by kernel_rfl) (by kernel_rfl) (by kernel_rfl) (by kernel_rfl) (by kernel_rfl) rfl trivial (fun _ _ _ h => h) hM (fun w hC => r_field hl rfl fld48_2) rfl ?_
              clear hl a; intro a hl
              refine d_take (i := 8) hl rfl (by kernel_rfl) (by kernel_rfl) (by kernel_rfl) (by kernel_rfl) (by kernel_rfl) rfl trivial (fun _ _ _ h => h) hM (fun w hC => r_field hl rfl fld46_1) rfl ?_
              clear hl a; intro a hl
              refine d_take (i := 9) hl rfl (by kernel_rfl) (by kernel_rfl) (by kernel_rfl) (by kernel_rfl) (by kernel_rfl) rfl trivial (fun _ _ _ h => h) hM (fun w hC => r_loadC hl rfl one42 hC (by repeat (first | exact find_head | apply find_tail | apply find_skip)) (by exact c4_args hx)) rfl ?_
              clear hl a; intro a hl
              refine d_one (i := 10) (by kernel_rfl) rfl ?_
              try clear hM
              refine id (w_call hl hh rfl trivial rfl cal57 rfl (read_keep k13 0 [.int .u64 (bitsOf .or .u64 st.pl (sh64 pk.2)), .slice np9 st.num.length nc9, .int .i64 st.nx] 129 st.num np9 nc9 jn9 hN9 st.nx x.l.a x.p x.c x.E hxo.ags (apartK hh (by repeat (first | exact keeps_nil | apply keeps_cons (by repeat (first | exact find_head | apply find_tail | apply find_skip)) (by first  | rfl) | exact keeps_self | exact keeps_left | apply keeps_app | apply keeps_mv | apply keeps_skip)) hxE) rfl rfl (fun t ht hk => by rw [hok.len]; exact hX.vb x t hxm ht hk) (by rw [hok.len]; exact hX.v6) hok.nx) (by repeat (first | exact keeps_nil | apply keeps_cons (by repeat (first | exact find_head | apply find_tail | apply find_skip)) (by first  | rfl) | exact keeps_self | exact keeps_left | apply keeps_app | apply keeps_mv | apply keeps_skip)) (mem_keep hh hxE) ?_)
              clear hl hh a w; intro vc Fc a w hR hl hh
              obtain ⟨Eo, hRo, rfl⟩ := hR
              try simp only [List.cons_append, List.nil_append, List.append_assoc, List.append_nil] at hh
              simp only [setL, Nat.zero_add, List.take_succ_cons, List.take_zero, List.drop_succ_cons, List.drop_zero, List.drop_nil, List.cons_append, List.nil_append, List.length_cons, List.length_nil, Nat.reduceAdd, List.append_nil] at hh
              refine d_step (fun h => absurd h (by decide)) ?_
              refine d_done (by kernel_rfl) ?_
              try clear hM
              have hl2 := hl.add (t := 0) (hl.add (t := 1) (hl.add (t := 2) (hl.add (t := 7) (hl.add (t := 13) (hl.add (t := 17) (hl.add (t := 18) (hl.add (t := 19) (hl.nil) rfl) rfl) rfl) rfl) rfl) rfl) rfl) rfl; clear hl; have hl := hl2; clear hl2
              refine then_normal ?_
              refine c_region ?_
              refine wl (wl_val hl rfl trivial (r_move hl rfl) ?_)
              clear hl a; intro a hl
              first | refine wl (w_loadA hl hh rfl trivial agg129 rfl (by repeat (first | exact find_head | apply find_tail | apply find_skip)) (by first | (simp only [List.getElem?_cons_zero, List.getElem?_cons_succ, Value.cells, List.take_zero, List.take_succ_cons, List.take_nil, List.drop_zero, List.drop_succ_cons, List.drop_nil, List.length_cons, List.length_nil, List.cons_append, List.nil_append, List.append_nil, Nat.zero_add, Nat.add_zero, Nat.reduceAdd, Nat.reduceBEq, Nat.reduceEqDiff, Nat.ble, BEq.rfl, Bool.and_true, Bool.and_self, cond_true, beq_self_eq_true]; rfl)) (by first | rfl | (simp; done)) ?_) | refine wl (w_loadRA hl hh rfl trivial agg129 rfl hmp (by simp) hq9 rfl ?_)
              clear hl a; intro a hl
              refine wl (w_buildSlice hl hh rfl trivial app132 zero129 rfl rfl rfl rfl rfl (by simp only [fillL, arrPl, List.range_succ, List.range_zero, List.map_cons, List.map_nil, List.map_append, List.nil_append, List.replicate_succ, List.replicate_zero, List.flatten_cons, List.flatten_nil, Nat.zero_mul, Nat.mul_one, Nat.one_mul, Nat.reduceMul, setL, List.getElem?_cons_zero, List.getElem?_cons_succ, Value.cells, List.take_zero, List.take_succ_cons, List.take_nil, List.drop_zero, List.drop_succ_cons, List.drop_nil, List.length_cons, List.length_nil, List.cons_append, List.nil_append, List.append_nil, Nat.zero_add, Nat.add_zero, Nat.reduceAdd, Nat.reduceBEq, Nat.reduceEqDiff, Nat.ble, BEq.rfl, Bool.and_true, Bool.and_self, cond_true, beq_self_eq_true]; rfl) ?_)
              clear hl hh a w; intro k91 a w hl hh
              refine wl (w_append (news := [.int .u64 (bitsOf .or .u64 st.pl (sh64 pk.2)), .slice np9 st.num.length nc9, .int .i64 (rdTs (st.num, st.nx) x.l.a).1.2]) hl hh rfl trivial app132 rfl rfl rfl hI.row (by repeat (first | exact keeps_nil | apply keeps_cons (by repeat (first | exact find_head | apply find_tail | apply find_skip)) (by first  | rfl) | exact keeps_self | exact keeps_left | apply keeps_app | apply keeps_mv | apply keeps_skip)) (hh.mem _ _ (Find.mem (by repeat (first | exact find_head | apply find_tail | apply find_skip)))) rfl rfl rfl (by omega) (by omega) (by omega) (by decide) ?_)
              clear hl hh a w; intro rv2 E2 a w hR2 hl hh
              have hh3 := hh.comm; clear hh; have hh := hh3; clear hh3
              try simp only [List.cons_append, List.nil_append, List.append_assoc, List.append_nil] at hh
              refine wl (wl_val hl rfl trivial (r_assign hl rfl) ?_)
              clear hl a; intro a hl
              refine w_nil ?_
              have hl2 := hl.add (t := 0) (hl.add (t := 1) (hl.add (t := 2) (hl.add (t := 7) (hl.add (t := 17) (hl.add (t := 18) (hl.add (t := 19) (hl.nil) rfl) rfl) rfl) rfl) rfl) rfl) rfl; clear hl; have hl := hl2; clear hl2
              obtain ⟨p8, c8, hv8⟩ := row_val hR2
              subst hv8
              generalize E2 = E8 at hh hR2
              have hrow8 : Row (.slice p8 (z.nbs ++ [(⟨bitsOf .or .u64 st.pl (sh64 pk.2), (rdTs (st.num, st.nx) x.l.a).1.1, (rdTs (st.num, st.nx) x.l.a).1.2, np9, nc9, jn9⟩ : SQ)]).length c8) (z.nbs ++ [(⟨bitsOf .or .u64 st.pl (sh64 pk.2), (rdTs (st.num, st.nx) x.l.a).1.1, (rdTs (st.num, st.nx) x.l.a).1.2, np9, nc9, jn9⟩ : SQ)]).length (fl SQ.cells (z.nbs ++ [⟨bitsOf .or .u64 st.pl (sh64 pk.2), (rdTs (st.num, st.nx) x.l.a).1.1, (rdTs (st.num, st.nx) x.l.a).1.2, np9, nc9, jn9⟩])) 3 129 E8 := row_snoc (f := SQ.cells) (by show Row _ _ (_ ++ [.int .u64 _, .slice np9 (rdTs (st.num, st.nx) x.l.a).1.1.length nc9, .int .i64 _]) 3 129 E8; rw [(rdTs_nl (st.num, st.nx) x.l.a).1]; exact hR2)
              have hh9 := has_sw hh (A := List.flatMap SQ.blk z.nbs ++ nbE np9 jn9 (rdTs (st.num, st.nx) x.l.a).1.1) (by repeat (first | exact keeps_nil | apply keeps_cons (by repeat (first | exact find_head | apply find_tail | apply find_skip)) (by first  | rfl) | exact keeps_self | exact keeps_left | apply keeps_app | apply keeps_mv | apply keeps_skip)) (A' := List.flatMap SQ.blk (z.nbs ++ [(⟨bitsOf .or .u64 st.pl (sh64 pk.2), (rdTs (st.num, st.nx) x.l.a).1.1, (rdTs (st.num, st.nx) x.l.a).1.2, np9, nc9, jn9⟩ : SQ)])) (by rw [List.flatMap_append]; simp [SQ.blk])
              clear hh; have hh := hh9; clear hh9
              try simp only [List.append_assoc, List.cons_append, List.nil_append] at hh
              refine blk_normal ?_
              refine then_normal ?_
              refine c_region ?_
              first | refine wl (wl_val hl rfl trivial (r_add hl rfl rfl (by simp only [Fits]; omega)) ?_) | refine wl (wl_val hl rfl trivial (r_addW hl rfl rfl) ?_)
              clear hl a; intro a hl
              refine wl (wl_val hl rfl trivial (r_move hl rfl) ?_)
              clear hl a; intro a hl
              refine w_nil ?_
              have hl2 := hl.add (t := 0) (hl.add (t := 1) (hl.add (t := 2) (hl.add (t := 7) (hl.add (t := 17) (hl.add (t := 18) (hl.add (t := 19) (hl.nil) rfl) rfl) rfl) rfl) rfl) rfl) rfl; clear hl; have hl := hl2; clear hl2
              refine then_normal ?_
              refine ⟨⟨z.k + 1, z.nbs ++ [⟨bitsOf .or .u64 st.pl (sh64 pk.2), (rdTs (st.num, st.nx) x.l.a).1.1, (rdTs (st.num, st.nx) x.l.a).1.2, np9, nc9, jn9⟩], p8, c8, E8⟩, (by simp only; omega), ⟨by simp only; omega, by show List.map SQ.core (z.nbs ++ [_]) = _; rw [List.map_append, hI.co, follow_no hpk hcore (X.at_ hx) htw9]; rfl, by show (z.nbs ++ [_]).length ≤ z.k + 1; rw [List.length_append, List.length_singleton]; omega, hrow8, fun b hb => by rcases List.mem_append.1 hb with h | h; exact hI.ok b h; (rw [List.mem_singleton] at h; subst h; exact new_ok hok hxo (hR0 st hstm) hRb hN9 _)⟩, hl.addE (t := 19) (hl.addE (t := 7) (hl.addE (t := 0) (hl.addE (t := 1) (hl.addE (t := 2) (hl.addE (t := 17) (hl.addE (t := 18) (hl.nil) rfl (by first | rfl | exact congrArg (Value.int .i64) (show (z.k : Int) + 1 = ((z.k + 1 : Nat) : Int) by omega) | (rw [hqp]) | (simp [List.length_append]; done))) rfl (by first | rfl | exact congrArg (Value.int .i64) (show (z.k : Int) + 1 = ((z.k + 1 : Nat) : Int) by omega) | (rw [hqp]) | (simp [List.length_append]; done))) rfl (by first | rfl | exact congrArg (Value.int .i64) (show (z.k : Int) + 1 = ((z.k + 1 : Nat) : Int) by omega) | (rw [hqp]) | (simp [List.length_append]; done))) rfl (by first | rfl | exact congrArg (Value.int .i64) (show (z.k : Int) + 1 = ((z.k + 1 : Nat) : Int) by omega) | (rw [hqp]) | (simp [List.length_append]; done))) rfl (by first | rfl | exact congrArg (Value.int .i64) (show (z.k : Int) + 1 = ((z.k + 1 : Nat) : Int) by omega) | (rw [hqp]) | (simp [List.length_append]; done))) rfl (by first | rfl | exact congrArg (Value.int .i64) (show (z.k : Int) + 1 = ((z.k + 1 : Nat) : Int) by omega) | (rw [hqp]) | (simp [List.length_append]; done))) rfl (by first | rfl | exact congrArg (Value.int .i64) (show (z.k : Int) + 1 = ((z.k + 1 : Nat) : Int) by omega) | (rw [hqp]) | (simp [List.length_append]; done)), hh.keep (by repeat (first | exact keeps_nil | apply keeps_cons (by repeat (first | exact find_head | apply find_tail | apply find_skip)) (by first  | rfl) | exact keeps_self | exact keeps_left | apply keeps_app | apply keeps_mv | apply keeps_skip))⟩
            ·
              try clear hM
              refine id (w_alloc hl hh rfl trivial zero129 rfl ?_)
              clear hl hh a w; intro k13 a w hl hh
              have hM : Mem [(fb, C (fl SQ.cells bs ++ jf) 129), (k9, C [.int .i64 (pk.1 : Int), .int .i64 (pk.2 : Int)] 181)] w := (by (repeat (first | exact Mem.nil | refine Mem.consR hh (by assumption) (by simp) ?_ | refine Mem.cons hh.mem (by (repeat (first | exact find_head | apply find_tail | apply find_skip)); done) ?_ | fail)); done)
              refine d_step (fun _ => hM) ?_
              refine d_one (i := 13) (by kernel_rfl) rfl ?_
              try clear hM
              refine id (w_appendCopy hl hh rfl trivial app58 rfl rfl rfl hok.n.row (fun b o m => heap_keep hh (hpre _ _ (hS.nb _ m))) (fl_one1 iI_one _) (by have := hok.len; have := hX.v6; omega) (by have := hok.len; have := hX.v6; omega) (by decide) ?_)
              clear hl hh a w; intro rv3 E3 a w hR3 hl hh
              have hh3 := hh.comm; clear hh; have hh := hh3; clear hh3
              try simp only [List.cons_append, List.nil_append, List.append_assoc, List.append_nil] at hh
              obtain ⟨np9, nc9, hv9⟩ := row_val hR3
              subst hv9
              obtain ⟨jn9, hE9, hN9⟩ := row_nok hR3
              subst hE9
              have hM : Mem [(fb, C (fl SQ.cells bs ++ jf) 129), (k9, C [.int .i64 (pk.1 : Int), .int .i64 (pk.2 : Int)] 181)] w := (by (repeat (first | exact Mem.nil | refine Mem.consR hh (by assumption) (by simp) ?_ | refine Mem.cons hh.mem (by (repeat (first | exact find_head | apply find_tail | apply find_skip)); done) ?_ | fail)); done)
              refine d_step (fun _ => hM) ?_
              refine d_take (i := 18) hl rfl (by kernel_rfl) (by kernel_rfl) (by kernel_rfl) (by kernel_rfl) (by kernel_rfl) rfl trivial (fun _ _ _ h => h) hM (fun w hC => r_build hl rfl zero129 bld129 (by simp only [fillL, setL, List.getElem?_cons_zero, List.getElem?_cons_succ, Value.cells, List.take_zero, List.take_succ_cons, List.take_nil, List.drop_zero, List.drop_succ_cons, List.drop_nil, List.length_cons, List.length_nil, List.cons_append, List.nil_append, List.append_nil, Nat.zero_add, Nat.add_zero, Nat.reduceAdd, Nat.reduceBEq, Nat.reduceEqDiff, Nat.ble, BEq.rfl, Bool.and_true, Bool.and_self, cond_true, beq_self_eq_true]; rfl)) rfl ?_
              clear hl a; intro a hl
              refine d_one (i := 20) (by kernel_rfl) rfl ?_
              try clear hM
              refine id (w_storeA hl hh trivial agg129 rfl rfl (by repeat (first | exact find_head | apply find_tail | apply find_skip)) (by first | rfl | (simp; done)) (by first | (simp; done) | (simp; omega)) (by first | rfl | (simp; done) | rfl) (by first | (simp only [setL, List.getElem?_cons_zero, List.getElem?_cons_succ, Value.cells, List.take_zero, List.take_succ_cons, List.take_nil, List.drop_zero, List.drop_succ_cons, List.drop_nil, List.length_cons, List.length_nil, List.cons_append, List.nil_append, List.append_nil, Nat.zero_add, Nat.add_zero, Nat.reduceAdd, Nat.reduceBEq, Nat.reduceEqDiff, Nat.ble, BEq.rfl, Bool.and_true, Bool.and_self, cond_true, beq_self_eq_true]; rfl)) ?_)
              clear hh w; intro w hh
              refine d_step (fun h => absurd h (by decide)) ?_
              refine d_done (by kernel_rfl) ?_
              try clear hM
              have hl2 := hl.add (t := 0) (hl.add (t := 1) (hl.add (t := 2) (hl.add (t := 7) (hl.add (t := 9) (hl.add (t := 13) (hl.add (t := 17) (hl.add (t := 18) (hl.add (t := 19) (hl.nil) rfl) rfl) rfl) rfl) rfl) rfl) rfl) rfl) rfl; clear hl; have hl := hl2; clear hl2
              refine then_normal ?_
              refine c_seq ?_
              refine c_draw [(X.sb, C [.string X.hs, X.hv, .slice (some ⟨X.bb, 0, none⟩) X.xs.length X.xs.length, .int .i64 (X.vs : Int), .slice (some ⟨X.ob, 0, none⟩) X.vs X.vs] 127), (X.bb, C (fl LV.c4 X.xs) 48), (k9, C [.int .i64 (pk.1 : Int), .int .i64 (pk.2 : Int)] 181)] [10] mixed hh ?_
              clear hh w; intro w hh
              have hM : Mem [(X.sb, C [.string X.hs, X.hv, .slice (some ⟨X.bb, 0, none⟩) X.xs.length X.xs.length, .int .i64 (X.vs : Int), .slice (some ⟨X.ob, 0, none⟩) X.vs X.vs] 127), (X.bb, C (fl LV.c4 X.xs) 48), (k9, C [.int .i64 (pk.1 : Int), .int .i64 (pk.2 : Int)] 181)] w := (by (repeat (first | exact Mem.nil | refine Mem.consR hh (by assumption) (by simp) ?_ | refine Mem.cons hh.mem (by (repeat (first | exact find_head | apply find_tail | apply find_skip)); done) ?_ | fail)); done)
              refine d_take (i := 0) hl rfl (by kernel_rfl) (by kernel_rfl) (by kernel_rfl) (by kernel_rfl) (by kernel_rfl) rfl trivial (fun _ _ _ h => h) hM (fun w hC => r_move hl rfl) rfl ?_
              clear hl a; intro a hl
              refine d_take (i := 1) hl rfl (by kernel_rfl) (by kernel_rfl) (by kernel_rfl) (by kernel_rfl) (by kernel_rfl) rfl trivial (fun _ _ _ h => h) hM (fun w hC => r_nilCheck hl rfl) rfl ?_
              clear hl a; intro a hl
              refine d_take (i := 2) hl rfl (by kernel_rfl) (by kernel_rfl) (by kernel_rfl) (by kernel_rfl) (by kernel_rfl) rfl trivial (fun _ _ _ h => h) hM (fun w hC => r_field hl rfl fld127_1) rfl ?_
              clear hl a; intro a hl
              refine d_take (i := 3) hl rfl (by kernel_rfl) (by kernel_rfl) (by kernel_rfl) (by kernel_rfl) (by kernel_rfl) rfl trivial (fun _ _ _ h => h) hM (fun w hC => r_loadC hl rfl one55 hC (by repeat (first | exact find_head | apply find_tail | apply find_skip)) (by rfl)) rfl ?_
              clear hl a; intro a hl
              refine d_take (i := 4) hl rfl (by kernel_rfl) (by kernel_rfl) (by kernel_rfl) (by kernel_rfl) (by kernel_rfl) rfl trivial (fun _ _ _ h => h) hM (fun w hC => r_field hl rfl fld181_1) rfl ?_
              clear hl a; intro a hl
              refine d_take (i := 5) hl rfl (by kernel_rfl) (by kernel_rfl) (by kernel_rfl) (by kernel_rfl) (by kernel_rfl) rfl trivial (fun _ _ _ h => h) hM (fun w hC => r_loadC hl rfl one3 hC (by repeat (first | exact find_head | apply find_tail | apply find_skip)) (by first | rfl)) rfl ?_
              clear hl a; intro a hl
              refine d_take (i := 6) hl rfl (by kernel_rfl) (by kernel_rfl) (by kernel_rfl) (by kernel_rfl) (by kernel_rfl) rfl trivial (fun _ _ _ h => h) hM (fun w hC => r_indexS hl rfl rfl slc55 (by omega) (by omega) (by first | (simp only [Int.reduceToNat]; rfl) | exact toNat_add1 _ | exact toNat_add2 _ _ | exact toNat_emod _ _ | exact Int.toNat_natCast _ | rfl)) rfl ?_
              clear hl a; intro a hl
              refine d_take (i := 7) hl rfl (by kernel_rfl) (by kernel_rfl) (by kernel_rfl) (by kernel_rfl) (by kernel_rfl) rfl trivial (fun _ _ _ h => h) hM (fun w hC => r_field hl rfl fld48_2) rfl ?_
              clear hl a; intro a hl
              refine d_take (i := 8) hl rfl (by kernel_rfl) (by kernel_rfl) (by kernel_rfl) (by kernel_rfl) (by kernel_rfl) rfl trivial (fun _ _ _ h => h) hM (fun w hC => r_field hl rfl fld46_1) rfl ?_
              clear hl a; intro a hl
              refine d_take (i := 9) hl rfl (by kernel_rfl) (by kernel_rfl) (by kernel_rfl) (by kernel_rfl) (by kernel_rfl) rfl trivial (fun _ _ _ h => h) hM (fun w hC => r_loadC hl rfl one42 hC (by repeat (first | exact find_head | apply find_tail | apply find_skip)) (by exact c4_args hx)) rfl ?_
              clear hl a; intro a hl
              refine d_one (i := 10) (by kernel_rfl) rfl ?_
              try clear hM
              refine id (w_call hl hh rfl trivial rfl cal57 rfl (read_keep k13 0 [.int .u64 (bitsOf .or .u64 st.pl (sh64 pk.2)), .slice np9 st.num.length nc9, .int .i64 st.nx] 129 st.num np9 nc9 jn9 hN9 st.nx x.l.a x.p x.c x.E hxo.ags (apartK hh (by repeat (first | exact keeps_nil | apply keeps_cons (by repeat (first | exact find_head | apply find_tail | apply find_skip)) (by first  | rfl) | exact keeps_self | exact keeps_left | apply keeps_app | apply keeps_mv | apply keeps_skip)) hxE) rfl rfl (fun t ht hk => by rw [hok.len]; exact hX.vb x t hxm ht hk) (by rw [hok.len]; exact hX.v6) hok.nx) (by repeat (first | exact keeps_nil | apply keeps_cons (by repeat (first | exact find_head | apply find_tail | apply find_skip)) (by first  | rfl) | exact keeps_self | exact keeps_left | apply keeps_app | apply keeps_mv | apply keeps_skip)) (mem_keep hh hxE) ?_)
              clear hl hh a w; intro vc Fc a w hR hl hh
              obtain ⟨Eo, hRo, rfl⟩ := hR
              try simp only [List.cons_append, List.nil_append, List.append_assoc, List.append_nil] at hh
              simp only [setL, Nat.zero_add, List.take_succ_cons, List.take_zero, List.drop_succ_cons, List.drop_zero, List.drop_nil, List.cons_append, List.nil_append, List.length_cons, List.length_nil, Nat.reduceAdd, List.append_nil] at hh
              refine d_step (fun h => absurd h (by decide)) ?_
              refine d_done (by kernel_rfl) ?_
              try clear hM
              have hl2 := hl.add (t := 0) (hl.add (t := 1) (hl.add (t := 2) (hl.add (t := 7) (hl.add (t := 13) (hl.add (t := 17) (hl.add (t := 18) (hl.add (t := 19) (hl.nil) rfl) rfl) rfl) rfl) rfl) rfl) rfl) rfl; clear hl; have hl := hl2; clear hl2
              refine then_normal ?_
              refine c_region ?_
              refine wl (wl_val hl rfl trivial (r_move hl rfl) ?_)
              clear hl a; intro a hl
              first | refine wl (w_loadA hl hh rfl trivial agg129 rfl (by repeat (first | exact find_head | apply find_tail | apply find_skip)) (by first | (simp only [List.getElem?_cons_zero, List.getElem?_cons_succ, Value.cells, List.take_zero, List.take_succ_cons, List.take_nil, List.drop_zero, List.drop_succ_cons, List.drop_nil, List.length_cons, List.length_nil, List.cons_append, List.nil_append, List.append_nil, Nat.zero_add, Nat.add_zero, Nat.reduceAdd, Nat.reduceBEq, Nat.reduceEqDiff, Nat.ble, BEq.rfl, Bool.and_true, Bool.and_self, cond_true, beq_self_eq_true]; rfl)) (by first | rfl | (simp; done)) ?_) | refine wl (w_loadRA hl hh rfl trivial agg129 rfl hmp (by simp) hq9 rfl ?_)
              clear hl a; intro a hl
              refine wl (w_buildSlice hl hh rfl trivial app132 zero129 rfl rfl rfl rfl rfl (by simp only [fillL, arrPl, List.range_succ, List.range_zero, List.map_cons, List.map_nil, List.map_append, List.nil_append, List.replicate_succ, List.replicate_zero, List.flatten_cons, List.flatten_nil, Nat.zero_mul, Nat.mul_one, Nat.one_mul, Nat.reduceMul, setL, List.getElem?_cons_zero, List.getElem?_cons_succ, Value.cells, List.take_zero, List.take_succ_cons, List.take_nil, List.drop_zero, List.drop_succ_cons, List.drop_nil, List.length_cons, List.length_nil, List.cons_append, List.nil_append, List.append_nil, Nat.zero_add, Nat.add_zero, Nat.reduceAdd, Nat.reduceBEq, Nat.reduceEqDiff, Nat.ble, BEq.rfl, Bool.and_true, Bool.and_self, cond_true, beq_self_eq_true]; rfl) ?_)
              clear hl hh a w; intro k91 a w hl hh
              refine wl (w_append (news := [.int .u64 (bitsOf .or .u64 st.pl (sh64 pk.2)), .slice np9 st.num.length nc9, .int .i64 (rdTs (st.num, st.nx) x.l.a).1.2]) hl hh rfl trivial app132 rfl rfl rfl hI.row (by repeat (first | exact keeps_nil | apply keeps_cons (by repeat (first | exact find_head | apply find_tail | apply find_skip)) (by first  | rfl) | exact keeps_self | exact keeps_left | apply keeps_app | apply keeps_mv | apply keeps_skip)) (hh.mem _ _ (Find.mem (by repeat (first | exact find_head | apply find_tail | apply find_skip)))) rfl rfl rfl (by omega) (by omega) (by omega) (by decide) ?_)
              clear hl hh a w; intro rv2 E2 a w hR2 hl hh
              have hh3 := hh.comm; clear hh; have hh := hh3; clear hh3
              try simp only [List.cons_append, List.nil_append, List.append_assoc, List.append_nil] at hh
              refine wl (wl_val hl rfl trivial (r_assign hl rfl) ?_)
              clear hl a; intro a hl
              refine w_nil ?_
              have hl2 := hl.add (t := 0) (hl.add (t := 1) (hl.add (t := 2) (hl.add (t := 7) (hl.add (t := 17) (hl.add (t := 18) (hl.add (t := 19) (hl.nil) rfl) rfl) rfl) rfl) rfl) rfl) rfl; clear hl; have hl := hl2; clear hl2
              obtain ⟨p8, c8, hv8⟩ := row_val hR2
              subst hv8
              generalize E2 = E8 at hh hR2
              have hrow8 : Row (.slice p8 (z.nbs ++ [(⟨bitsOf .or .u64 st.pl (sh64 pk.2), (rdTs (st.num, st.nx) x.l.a).1.1, (rdTs (st.num, st.nx) x.l.a).1.2, np9, nc9, jn9⟩ : SQ)]).length c8) (z.nbs ++ [(⟨bitsOf .or .u64 st.pl (sh64 pk.2), (rdTs (st.num, st.nx) x.l.a).1.1, (rdTs (st.num, st.nx) x.l.a).1.2, np9, nc9, jn9⟩ : SQ)]).length (fl SQ.cells (z.nbs ++ [⟨bitsOf .or .u64 st.pl (sh64 pk.2), (rdTs (st.num, st.nx) x.l.a).1.1, (rdTs (st.num, st.nx) x.l.a).1.2, np9, nc9, jn9⟩])) 3 129 E8 := row_snoc (f := SQ.cells) (by show Row _ _ (_ ++ [.int .u64 _, .slice np9 (rdTs (st.num, st.nx) x.l.a).1.1.length nc9, .int .i64 _]) 3 129 E8; rw [(rdTs_nl (st.num, st.nx) x.l.a).1]; exact hR2)
              have hh9 := has_sw hh (A := List.flatMap SQ.blk z.nbs ++ nbE np9 jn9 (rdTs (st.num, st.nx) x.l.a).1.1) (by repeat (first | exact keeps_nil | apply keeps_cons (by repeat (first | exact find_head | apply find_tail | apply find_skip)) (by first  | rfl) | exact keeps_self | exact keeps_left | apply keeps_app | apply keeps_mv | apply keeps_skip)) (A' := List.flatMap SQ.blk (z.nbs ++ [(⟨bitsOf .or .u64 st.pl (sh64 pk.2), (rdTs (st.num, st.nx) x.l.a).1.1, (rdTs (st.num, st.nx) x.l.a).1.2, np9, nc9, jn9⟩ : SQ)])) (by rw [List.flatMap_append]; simp [SQ.blk])
              clear hh; have hh := hh9; clear hh9
              try simp only [List.append_assoc, List.cons_append, List.nil_append] at hh
              refine blk_normal ?_
              refine then_normal ?_
              refine c_region ?_
              first | refine wl (wl_val hl rfl trivial (r_add hl rfl rfl (by simp only [Fits]; omega)) ?_) | refine wl (wl_val hl rfl trivial (r_addW hl rfl rfl) ?_)
              clear hl a; intro a hl
              refine wl (wl_val hl rfl trivial (r_move hl rfl) ?_)
              clear hl a; intro a hl
              refine w_nil ?_
              have hl2 := hl.add (t := 0) (hl.add (t := 1) (hl.add (t := 2) (hl.add (t := 7) (hl.add (t := 17) (hl.add (t := 18) (hl.add (t := 19) (hl.nil) rfl) rfl) rfl) rfl) rfl) rfl) rfl; clear hl; have hl := hl2; clear hl2
              refine then_normal ?_
              refine ⟨⟨z.k + 1, z.nbs ++ [⟨bitsOf .or .u64 st.pl (sh64 pk.2), (rdTs (st.num, st.nx) x.l.a).1.1, (rdTs (st.num, st.nx) x.l.a).1.2, np9, nc9, jn9⟩], p8, c8, E8⟩, (by simp only; omega), ⟨by simp only; omega, by show List.map SQ.core (z.nbs ++ [_]) = _; rw [List.map_append, hI.co, follow_no hpk hcore (X.at_ hx) htw9]; rfl, by show (z.nbs ++ [_]).length ≤ z.k + 1; rw [List.length_append, List.length_singleton]; omega, hrow8, fun b hb => by rcases List.mem_append.1 hb with h | h; exact hI.ok b h; (rw [List.mem_singleton] at h; subst h; exact new_ok hok hxo (hR0 st hstm) hRb hN9 _)⟩, hl.addE (t := 19) (hl.addE (t := 7) (hl.addE (t := 0) (hl.addE (t := 1) (hl.addE (t := 2) (hl.addE (t := 17) (hl.addE (t := 18) (hl.nil) rfl (by first | rfl | exact congrArg (Value.int .i64) (show (z.k : Int) + 1 = ((z.k + 1 : Nat) : Int) by omega) | (rw [hqp]) | (simp [List.length_append]; done))) rfl (by first | rfl | exact congrArg (Value.int .i64) (show (z.k : Int) + 1 = ((z.k + 1 : Nat) : Int) by omega) | (rw [hqp]) | (simp [List.length_append]; done))) rfl (by first | rfl | exact congrArg (Value.int .i64) (show (z.k : Int) + 1 = ((z.k + 1 : Nat) : Int) by omega) | (rw [hqp]) | (simp [List.length_append]; done))) rfl (by first | rfl | exact congrArg (Value.int .i64) (show (z.k : Int) + 1 = ((z.k + 1 : Nat) : Int) by omega) | (rw [hqp]) | (simp [List.length_append]; done))) rfl (by first | rfl | exact congrArg (Value.int .i64) (show (z.k : Int) + 1 = ((z.k + 1 : Nat) : Int) by omega) | (rw [hqp]) | (simp [List.length_append]; done))) rfl (by first | rfl | exact congrArg (Value.int .i64) (show (z.k : Int) + 1 = ((z.k + 1 : Nat) : Int) by omega) | (rw [hqp]) | (simp [List.length_append]; done))) rfl (by first | rfl | exact congrArg (Value.int .i64) (show (z.k : Int) + 1 = ((z.k + 1 : Nat) : Int) by omega) | (rw [hqp]) | (simp [List.length_append]; done)), hh.keep (by repeat (first | exact keeps_nil | apply keeps_cons (by repeat (first | exact find_head | apply find_tail | apply find_skip)) (by first  | rfl) | exact keeps_self | exact keeps_left | apply keeps_app | apply keeps_mv | apply keeps_skip))⟩
      · intro hg2; clear hl; intro hl
        try simp only [decide_eq_true_eq, decide_eq_false_iff_not, Bool.not_eq_true', Bool.not_eq_false', Bool.not_eq_true, Bool.not_eq_false, Bool.and_eq_true, Bool.or_eq_true, Bool.and_eq_false_iff, Bool.or_eq_false_iff, Bool.not_not, ne_eq, Int.not_lt, Int.not_le, Decidable.not_not, beq_iff_eq, bne_iff_ne] at hg2
        refine d_skip (i := 13) hl rfl (by kernel_rfl) (by kernel_rfl) (by kernel_rfl) (by kernel_rfl) (by kernel_rfl) rfl ⟨_, _, rfl, rfl, rfl⟩ (fun _ _ _ h => h) hM ?_
        clear hl a; intro a hl
        refine d_skip (i := 14) hl rfl (by kernel_rfl) (by kernel_rfl) (by kernel_rfl) (by kernel_rfl) (by kernel_rfl) rfl ⟨_, _, rfl, rfl, rfl⟩ (fun _ _ _ h => h) hM ?_
        clear hl a; intro a hl
        refine d_takeL (i := 15) hl rfl (by kernel_rfl) (by kernel_rfl) (by kernel_rfl) (by kernel_rfl) (by kernel_rfl) rfl trivial (fun _ _ _ h => h) (fun w => r_pickF hl rfl rfl) rfl ?_
        clear hl a; intro a hl
        refine d_done (by kernel_rfl) ?_
        try clear hM
        have hl2 := hl.add (t := 0) (hl.add (t := 1) (hl.add (t := 2) (hl.add (t := 7) (hl.add (t := 9) (hl.add (t := 10) (hl.add (t := 11) (hl.add (t := 12) (hl.add (t := 17) (hl.add (t := 18) (hl.add (t := 19) (hl.add (t := 45) (hl.nil) rfl) rfl) rfl) rfl) rfl) rfl) rfl) rfl) rfl) rfl) rfl) rfl; clear hl; have hl := hl2; clear hl2
        refine then_normal ?_
        refine c_condF hl rfl ?_
        have htw : twL X.B X.oc st.core picks pk x.l z.k = tw := by
          cases htw0 : tw with
          | true => exact ht2 htw0
          | false =>
            rw [ht1 htw0]
            first | (exfalso; simp_all; done) | (have h0 : jn = 0 := (by omega); rw [h0]; rfl) | exact twL_ne hpr (by omega)
        refine wp_exit ?_
        refine then_exit ?_
        refine then_exit ?_
        refine blk_exit ?_
        refine then_normal ?_
        refine c_seq ?_
        refine c_seq ?_
        refine c_region ?_
        refine wl (wl_val hl rfl trivial (r_move hl rfl) ?_)
        clear hl a; intro a hl
        refine w_nil ?_
        have hl2 := hl.add (t := 0) (hl.add (t := 1) (hl.add (t := 2) (hl.add (t := 7) (hl.add (t := 9) (hl.add (t := 10) (hl.add (t := 17) (hl.add (t := 18) (hl.add (t := 19) (hl.add (t := 58) (hl.nil) rfl) rfl) rfl) rfl) rfl) rfl) rfl) rfl) rfl) rfl; clear hl; have hl := hl2; clear hl2
        refine then_normal ?_
        refine c_cond hl rfl ?_ ?_
        · intro hc2
          try simp only [decide_eq_true_eq, decide_eq_false_iff_not, Bool.not_eq_true', Bool.not_eq_false', Bool.not_eq_true, Bool.not_eq_false, Bool.and_eq_true, Bool.or_eq_true, Bool.and_eq_false_iff, Bool.or_eq_false_iff, Bool.not_not, ne_eq, Int.not_lt, Int.not_le, Decidable.not_not, beq_iff_eq, bne_iff_ne] at hc2
          have htw9 : twL X.B X.oc st.core picks pk x.l z.k = true := by rw [htw]; first | exact hc2 | simp_all
          refine wp_exit ?_
          refine then_exit ?_
          refine blk_exit ?_
          refine then_normal ?_
          refine c_region ?_
          first | refine wl (wl_val hl rfl trivial (r_add hl rfl rfl (by simp only [Fits]; omega)) ?_) | refine wl (wl_val hl rfl trivial (r_addW hl rfl rfl) ?_)
          clear hl a; intro a hl
          refine wl (wl_val hl rfl trivial (r_move hl rfl) ?_)
          clear hl a; intro a hl
          refine w_nil ?_
          have hl2 := hl.add (t := 0) (hl.add (t := 1) (hl.add (t := 2) (hl.add (t := 7) (hl.add (t := 17) (hl.add (t := 18) (hl.add (t := 19) (hl.nil) rfl) rfl) rfl) rfl) rfl) rfl) rfl; clear hl; have hl := hl2; clear hl2
          refine then_normal ?_
          refine ⟨⟨z.k + 1, z.nbs, z.p, z.c, z.E⟩, (by simp only; omega), ⟨by simp only; omega, hI.co.trans (follow_yes hpk hcore (X.at_ hx) htw9).symm, by simp only; omega, hI.row, hI.ok⟩, hl.addE (t := 19) (hl.addE (t := 7) (hl.addE (t := 0) (hl.addE (t := 1) (hl.addE (t := 2) (hl.addE (t := 17) (hl.addE (t := 18) (hl.nil) rfl (by first | rfl | exact congrArg (Value.int .i64) (show (z.k : Int) + 1 = ((z.k + 1 : Nat) : Int) by omega) | (rw [hqp]) | (simp [List.length_append]; done))) rfl (by first | rfl | exact congrArg (Value.int .i64) (show (z.k : Int) + 1 = ((z.k + 1 : Nat) : Int) by omega) | (rw [hqp]) | (simp [List.length_append]; done))) rfl (by first | rfl | exact congrArg (Value.int .i64) (show (z.k : Int) + 1 = ((z.k + 1 : Nat) : Int) by omega) | (rw [hqp]) | (simp [List.length_append]; done))) rfl (by first | rfl | exact congrArg (Value.int .i64) (show (z.k : Int) + 1 = ((z.k + 1 : Nat) : Int) by omega) | (rw [hqp]) | (simp [List.length_append]; done))) rfl (by first | rfl | exact congrArg (Value.int .i64) (show (z.k : Int) + 1 = ((z.k + 1 : Nat) : Int) by omega) | (rw [hqp]) | (simp [List.length_append]; done))) rfl (by first | rfl | exact congrArg (Value.int .i64) (show (z.k : Int) + 1 = ((z.k + 1 : Nat) : Int) by omega) | (rw [hqp]) | (simp [List.length_append]; done))) rfl (by first | rfl | exact congrArg (Value.int .i64) (show (z.k : Int) + 1 = ((z.k + 1 : Nat) : Int) by omega) | (rw [hqp]) | (simp [List.length_append]; done)), hh.keep (by repeat (first | exact keeps_nil | apply keeps_cons (by repeat (first | exact find_head | apply find_tail | apply find_skip)) (by first  | rfl) | exact keeps_self | exact keeps_left | apply keeps_app | apply keeps_mv | apply keeps_skip))⟩
        · intro hc2
          try simp only [decide_eq_true_eq, decide_eq_false_iff_not, Bool.not_eq_true', Bool.not_eq_false', Bool.not_eq_true, Bool.not_eq_false, Bool.and_eq_true, Bool.or_eq_true, Bool.and_eq_false_iff, Bool.or_eq_false_iff, Bool.not_not, ne_eq, Int.not_lt, Int.not_le, Decidable.not_not, beq_iff_eq, bne_iff_ne] at hc2
          have htw9 : twL X.B X.oc st.core picks pk x.l z.k = false := by rw [htw]; first | exact hc2 | simp_all
          refine wp_skip ?_
          refine then_normal ?_
          refine c_seq ?_
          refine c_draw [(fb, C (fl SQ.cells bs ++ jf) 129), (k9, C [.int .i64 (pk.1 : Int), .int .i64 (pk.2 : Int)] 181)] [20] mixed hh ?_
          clear hh w; intro w hh
          have hM : Mem [(fb, C (fl SQ.cells bs ++ jf) 129), (k9, C [.int .i64 (pk.1 : Int), .int .i64 (pk.2 : Int)] 181)] w := (by (repeat (first | exact Mem.nil | refine Mem.consR hh (by assumption) (by simp) ?_ | refine Mem.cons hh.mem (by (repeat (first | exact find_head | apply find_tail | apply find_skip)); done) ?_ | fail)); done)
          refine d_take (i := 0) hl rfl (by kernel_rfl) (by kernel_rfl) (by kernel_rfl) (by kernel_rfl) (by kernel_rfl) rfl trivial (fun _ _ _ h => h) hM (fun w hC => r_move hl rfl) rfl ?_
          clear hl a; intro a hl
          refine d_take (i := 1) hl rfl (by kernel_rfl) (by kernel_rfl) (by kernel_rfl) (by kernel_rfl) (by kernel_rfl) rfl trivial (fun _ _ _ h => h) hM (fun w hC => r_nilCheck hl rfl) rfl ?_
          clear hl a; intro a hl
          refine d_take (i := 2) hl rfl (by kernel_rfl) (by kernel_rfl) (by kernel_rfl) (by kernel_rfl) (by kernel_rfl) rfl trivial (fun _ _ _ h => h) hM (fun w hC => r_field hl rfl fld129_0) rfl ?_
          clear hl a; intro a hl
          refine d_take (i := 3) hl rfl (by kernel_rfl) (by kernel_rfl) (by kernel_rfl) (by kernel_rfl) (by kernel_rfl) rfl trivial (fun _ _ _ h => h) hM (fun w hC => r_loadC hl rfl one49 hC (by repeat (first | exact find_head | apply find_tail | apply find_skip)) (by exact hS.at_.1)) rfl ?_
          clear hl a; intro a hl
          refine d_take (i := 4) hl rfl (by kernel_rfl) (by kernel_rfl) (by kernel_rfl) (by kernel_rfl) (by kernel_rfl) rfl trivial (fun _ _ _ h => h) hM (fun w hC => r_field hl rfl fld181_1) rfl ?_
          clear hl a; intro a hl
          refine d_take (i := 5) hl rfl (by kernel_rfl) (by kernel_rfl) (by kernel_rfl) (by kernel_rfl) (by kernel_rfl) rfl trivial (fun _ _ _ h => h) hM (fun w hC => r_loadC hl rfl one3 hC (by repeat (first | exact find_head | apply find_tail | apply find_skip)) (by first | rfl)) rfl ?_
          clear hl a; intro a hl
          first | refine d_take (i := 6) hl rfl (by kernel_rfl) (by kernel_rfl) (by kernel_rfl) (by kernel_rfl) (by kernel_rfl) rfl trivial (fun _ _ _ h => h) hM (fun w hC => r_conv hl rfl Tryz.underlying3 Tryz.underlying106 (by simp only [Fits]; omega)) rfl ?_ | refine d_take (i := 6) hl rfl (by kernel_rfl) (by kernel_rfl) (by kernel_rfl) (by kernel_rfl) (by kernel_rfl) rfl trivial (fun _ _ _ h => h) hM (fun w hC => r_convW hl rfl Tryz.underlying3 Tryz.underlying106) rfl ?_
          clear hl a; intro a hl
          refine d_take (i := 7) hl rfl (by kernel_rfl) (by kernel_rfl) (by kernel_rfl) (by kernel_rfl) (by kernel_rfl) rfl trivial (fun _ _ _ h => h) hM (fun w hC => r_shl hl rfl rfl (by omega)) rfl ?_
          clear hl a; intro a hl
          rw [sh64_eq] at hl
          refine d_take (i := 8) hl rfl (by kernel_rfl) (by kernel_rfl) (by kernel_rfl) (by kernel_rfl) (by kernel_rfl) rfl trivial (fun _ _ _ h => h) hM (fun w hC => r_or hl rfl rfl) rfl ?_
          clear hl a; intro a hl
          refine d_take (i := 9) hl rfl (by kernel_rfl) (by kernel_rfl) (by kernel_rfl) (by kernel_rfl) (by kernel_rfl) rfl trivial (fun _ _ _ h => h) hM (fun w hC => r_move hl rfl) rfl ?_
          clear hl a; intro a hl
          refine d_take (i := 10) hl rfl (by kernel_rfl) (by kernel_rfl) (by kernel_rfl) (by kernel_rfl) (by kernel_rfl) rfl trivial (fun _ _ _ h => h) hM (fun w hC => r_nilCheck hl rfl) rfl ?_
          clear hl a; intro a hl
          refine d_take (i := 11) hl rfl (by kernel_rfl) (by kernel_rfl) (by kernel_rfl) (by kernel_rfl) (by kernel_rfl) rfl trivial (fun _ _ _ h => h) hM (fun w hC => r_field hl rfl fld129_1) rfl ?_
          clear hl a; intro a hl
          refine d_take (i := 12) hl rfl (by kernel_rfl) (by kernel_rfl) (by kernel_rfl) (by kernel_rfl) (by kernel_rfl) rfl trivial (fun _ _ _ h => h) hM (fun w hC => r_loadC hl rfl one58 hC (by repeat (first | exact find_head | apply find_tail | apply find_skip)) (by exact hS.at_.2.1)) rfl ?_
          clear hl a; intro a hl
          refine d_take (i := 14) hl rfl (by kernel_rfl) (by kernel_rfl) (by kernel_rfl) (by kernel_rfl) (by kernel_rfl) rfl trivial (fun _ _ _ h => h) hM (fun w hC => r_move hl rfl) rfl ?_
          clear hl a; intro a hl
          refine d_take (i := 15) hl rfl (by kernel_rfl) (by kernel_rfl) (by kernel_rfl) (by kernel_rfl) (by kernel_rfl) rfl trivial (fun _ _ _ h => h) hM (fun w hC => r_nilCheck hl rfl) rfl ?_
          clear hl a; intro a hl
          refine d_take (i := 16) hl rfl (by kernel_rfl) (by kernel_rfl) (by kernel_rfl) (by kernel_rfl) (by kernel_rfl) rfl trivial (fun _ _ _ h => h) hM (fun w hC => r_field hl rfl fld129_2) rfl ?_
          clear hl a; intro a hl
          refine d_take (i := 17) hl rfl (by kernel_rfl) (by kernel_rfl) (by kernel_rfl) (by kernel_rfl) (by kernel_rfl) rfl trivial (fun _ _ _ h => h) hM (fun w hC => r_loadC hl rfl one3 hC (by repeat (first | exact find_head | apply find_tail | apply find_skip)) (by exact hS.at_.2.2)) rfl ?_
          clear hl a; intro a hl
          refine d_two (i := 13) (j := 19) (by kernel_rfl) rfl rfl ?_ ?_
          ·
            try clear hM
            refine id (w_appendCopy hl hh rfl trivial app58 rfl rfl rfl hok.n.row (fun b o m => heap_keep hh (hpre _ _ (hS.nb _ m))) (fl_one1 iI_one _) (by have := hok.len; have := hX.v6; omega) (by have := hok.len; have := hX.v6; omega) (by decide) ?_)
            clear hl hh a w; intro rv3 E3 a w hR3 hl hh
            have hh3 := hh.comm; clear hh; have hh := hh3; clear hh3
            try simp only [List.cons_append, List.nil_append, List.append_assoc, List.append_nil] at hh
            obtain ⟨np9, nc9, hv9⟩ := row_val hR3
            subst hv9
            obtain ⟨jn9, hE9, hN9⟩ := row_nok hR3
            subst hE9
            have hM : Mem [(fb, C (fl SQ.cells bs ++ jf) 129), (k9, C [.int .i64 (pk.1 : Int), .int .i64 (pk.2 : Int)] 181)] w := (by (repeat (first | exact Mem.nil | refine Mem.consR hh (by assumption) (by simp) ?_ | refine Mem.cons hh.mem (by (repeat (first | exact find_head | apply find_tail | apply find_skip)); done) ?_ | fail)); done)
            refine d_step (fun _ => hM) ?_
            refine d_take (i := 18) hl rfl (by kernel_rfl) (by kernel_rfl) (by kernel_rfl) (by kernel_rfl) (by kernel_rfl) rfl trivial (fun _ _ _ h => h) hM (fun w hC => r_build hl rfl zero129 bld129 (by simp only [fillL, setL, List.getElem?_cons_zero, List.getElem?_cons_succ, Value.cells, List.take_zero, List.take_succ_cons, List.take_nil, List.drop_zero, List.drop_succ_cons, List.drop_nil, List.length_cons, List.length_nil, List.cons_append, List.nil_append, List.append_nil, Nat.zero_add, Nat.add_zero, Nat.reduceAdd, Nat.reduceBEq, Nat.reduceEqDiff, Nat.ble, BEq.rfl, Bool.and_true, Bool.and_self, cond_true, beq_self_eq_true]; rfl)) rfl ?_
            clear hl a; intro a hl
            refine d_one (i := 19) (by kernel_rfl) rfl ?_
            try clear hM
            refine id (w_alloc hl hh rfl trivial zero129 rfl ?_)
            clear hl hh a w; intro k13 a w hl hh
            have hM : Mem [(fb, C (fl SQ.cells bs ++ jf) 129), (k9, C [.int .i64 (pk.1 : Int), .int .i64 (pk.2 : Int)] 181)] w := (by (repeat (first | exact Mem.nil | refine Mem.consR hh (by assumption) (by simp) ?_ | refine Mem.cons hh.mem (by (repeat (first | exact find_head | apply find_tail | apply find_skip)); done) ?_ | fail)); done)
            refine d_step (fun _ => hM) ?_
            refine d_one (i := 20) (by kernel_rfl) rfl ?_
            try clear hM
            refine id (w_storeA hl hh trivial agg129 rfl rfl (by repeat (first | exact find_head | apply find_tail | apply find_skip)) (by first | rfl | (simp; done)) (by first | (simp; done) | (simp; omega)) (by first | rfl | (simp; done) | rfl) (by first | (simp only [setL, List.getElem?_cons_zero, List.getElem?_cons_succ, Value.cells, List.take_zero, List.take_succ_cons, List.take_nil, List.drop_zero, List.drop_succ_cons, List.drop_nil, List.length_cons, List.length_nil, List.cons_append, List.nil_append, List.append_nil, Nat.zero_add, Nat.add_zero, Nat.reduceAdd, Nat.reduceBEq, Nat.reduceEqDiff, Nat.ble, BEq.rfl, Bool.and_true, Bool.and_self, cond_true, beq_self_eq_true]; rfl)) ?_)
            clear hh w; intro w hh
            refine d_step (fun h => absurd h (by decide)) ?_
            refine d_done (by kernel_rfl) ?_
            try clear hM
            have hl2 := hl.add (t := 0) (hl.add (t := 1) (hl.add (t := 2) (hl.add (t := 7) (hl.add (t := 9) (hl.add (t := 13) (hl.add (t := 17) (hl.add (t := 18) (hl.add (t := 19) (hl.nil) rfl) rfl) rfl) rfl) rfl) rfl) rfl) rfl) rfl; clear hl; have hl := hl2; clear hl2
            refine then_normal ?_
            refine c_seq ?_
            refine c_draw [(X.sb, C [.string X.hs, X.hv, .slice (some ⟨X.bb, 0, none⟩) X.xs.length X.xs.length, .int .i64 (X.vs : Int), .slice (some ⟨X.ob, 0, none⟩) X.vs X.vs] 127), (X.bb, C (fl LV.c4 X.xs) 48), (k9, C [.int .i64 (pk.1 : Int), .int .i64 (pk.2 : Int)] 181)] [10] mixed hh ?_
            clear hh w; intro w hh
            have hM : Mem [(X.sb, C [.string X.hs, X.hv, .slice (some ⟨X.bb, 0, none⟩) X.xs.length X.xs.length, .int .i64 (X.vs : Int), .slice (some ⟨X.ob, 0, none⟩) X.vs X.vs] 127), (X.bb, C (fl LV.c4 X.xs) 48), (k9, C [.int .i64 (pk.1 : Int), .int .i64 (pk.2 : Int)] 181)] w := (by (repeat (first | exact Mem.nil | refine Mem.consR hh (by assumption) (by simp) ?_ | refine Mem.cons hh.mem (by (repeat (first | exact find_head | apply find_tail | apply find_skip)); done) ?_ | fail)); done)
            refine d_take (i := 0) hl rfl (by kernel_rfl) (by kernel_rfl) (by kernel_rfl) (by kernel_rfl) (by kernel_rfl) rfl trivial (fun _ _ _ h => h) hM (fun w hC => r_move hl rfl) rfl ?_
            clear hl a; intro a hl
            refine d_take (i := 1) hl rfl (by kernel_rfl) (by kernel_rfl) (by kernel_rfl) (by kernel_rfl) (by kernel_rfl) rfl trivial (fun _ _ _ h => h) hM (fun w hC => r_nilCheck hl rfl) rfl ?_
            clear hl a; intro a hl
            refine d_take (i := 2) hl rfl (by kernel_rfl) (by kernel_rfl) (by kernel_rfl) (by kernel_rfl) (by kernel_rfl) rfl trivial (fun _ _ _ h => h) hM (fun w hC => r_field hl rfl fld127_1) rfl ?_
            clear hl a; intro a hl
            refine d_take (i := 3) hl rfl (by kernel_rfl) (by kernel_rfl) (by kernel_rfl) (by kernel_rfl) (by kernel_rfl) rfl trivial (fun _ _ _ h => h) hM (fun w hC => r_loadC hl rfl one55 hC (by repeat (first | exact find_head | apply find_tail | apply find_skip)) (by rfl)) rfl ?_
            clear hl a; intro a hl
            refine d_take (i := 4) hl rfl (by kernel_rfl) (by kernel_rfl) (by kernel_rfl) (by kernel_rfl) (by kernel_rfl) rfl trivial (fun _ _ _ h => h) hM (fun w hC => r_field hl rfl fld181_1) rfl ?_
            clear hl a; intro a hl
            refine d_take (i := 5) hl rfl (by kernel_rfl) (by kernel_rfl) (by kernel_rfl) (by kernel_rfl) (by kernel_rfl) rfl trivial (fun _ _ _ h => h) hM (fun w hC => r_loadC hl rfl one3 hC (by repeat (first | exact find_head | apply find_tail | apply find_skip)) (by first | rfl)) rfl ?_
            clear hl a; intro a hl
            refine d_take (i := 6) hl rfl (by kernel_rfl) (by kernel_rfl) (by kernel_rfl) (by kernel_rfl) (by kernel_rfl) rfl trivial (fun _ _ _ h => h) hM (fun w hC => r_indexS hl rfl rfl slc55 (by omega) (by omega) (by first | (simp only [Int.reduceToNat]; rfl) | exact toNat_add1 _ | exact toNat_add2 _ _ | exact toNat_emod _ _ | exact Int.toNat_natCast _ | rfl)) rfl ?_
            clear hl a; intro a hl
            refine d_take (i := 7) hl rfl (by kernel_rfl) (by kernel_rfl) (by kernel_rfl) (by kernel_rfl) (by kernel_rfl) rfl trivial (fun _ _ _ h => h) hM (fun w hC => r_field hl rfl fld48_2) rfl ?_
            clear hl a; intro a hl
            refine d_take (i := 8) hl rfl (by kernel_rfl) (by kernel_rfl) (by kernel_rfl) (by kernel_rfl) (by kernel_rfl) rfl trivial (fun _ _ _ h => h) hM (fun w hC => r_field hl rfl fld46_1) rfl ?_
            clear hl a; intro a hl
            refine d_take (i := 9) hl rfl (by kernel_rfl) (by kernel_rfl) (by kernel_rfl) (by kernel_rfl) (by kernel_rfl) rfl trivial (fun _ _ _ h => h) hM (fun w hC => r_loadC hl rfl one42 hC (by repeat (first | exact find_head | apply find_tail | apply find_skip)) (by exact c4_args hx)) rfl ?_
            clear hl a; intro a hl
            refine d_one (i := 10) (by kernel_rfl) rfl ?_
            try clear hM
            refine id (w_call hl hh rfl trivial rfl cal57 rfl (read_keep k13 0 [.int .u64 (bitsOf .or .u64 st.pl (sh64 pk.2)), .slice np9 st.num.length nc9, .int .i64 st.nx] 129 st.num np9 nc9 jn9 hN9 st.nx x.l.a x.p x.c x.E hxo.ags (apartK hh (by repeat (first | exact keeps_nil | apply keeps_cons (by repeat (first | exact find_head | apply find_tail | apply find_skip)) (by first  | rfl) | exact keeps_self | exact keeps_left | apply keeps_app | apply keeps_mv | apply keeps_skip)) hxE) rfl rfl (fun t ht hk => by rw [hok.len]; exact hX.vb x t hxm ht hk) (by rw [hok.len]; exact hX.v6) hok.nx) (by repeat (first | exact keeps_nil | apply keeps_cons (by repeat (first | exact find_head | apply find_tail | apply find_skip)) (by first  | rfl) | exact keeps_self | exact keeps_left | apply keeps_app | apply keeps_mv | apply keeps_skip)) (mem_keep hh hxE) ?_)
            clear hl hh a w; intro vc Fc a w hR hl hh
            obtain ⟨Eo, hRo, rfl⟩ := hR
            try simp only [List.cons_append, List.nil_append, List.append_assoc, List.append_nil] at hh
            simp only [setL, Nat.zero_add, List.take_succ_cons, List.take_zero, List.drop_succ_cons, List.drop_zero, List.drop_nil, List.cons_append, List.nil_append, List.length_cons, List.length_nil, Nat.reduceAdd, List.append_nil] at hh
            refine d_step (fun h => absurd h (by decide)) ?_
            refine d_done (by kernel_rfl) ?_
            try clear hM
            have hl2 := hl.add (t := 0) (hl.add (t := 1) (hl.add (t := 2) (hl.add (t := 7) (hl.add (t := 13) (hl.add (t := 17) (hl.add (t := 18) (hl.add (t := 19) (hl.nil) rfl) rfl) rfl) rfl) rfl) rfl) rfl) rfl; clear hl; have hl := hl2; clear hl2
            refine then_normal ?_
            refine c_region ?_
            refine wl (wl_val hl rfl trivial (r_move hl rfl) ?_)
            clear hl a; intro a hl
            first | refine wl (w_loadA hl hh rfl trivial agg129 rfl (by repeat (first | exact find_head | apply find_tail | apply find_skip)) (by first | (simp only [List.getElem?_cons_zero, List.getElem?_cons_succ, Value.cells, List.take_zero, List.take_succ_cons, List.take_nil, List.drop_zero, List.drop_succ_cons, List.drop_nil, List.length_cons, List.length_nil, List.cons_append, List.nil_append, List.append_nil, Nat.zero_add, Nat.add_zero, Nat.reduceAdd, Nat.reduceBEq, Nat.reduceEqDiff, Nat.ble, BEq.rfl, Bool.and_true, Bool.and_self, cond_true, beq_self_eq_true]; rfl)) (by first | rfl | (simp; done)) ?_) | refine wl (w_loadRA hl hh rfl trivial agg129 rfl hmp (by simp) hq9 rfl ?_)
            clear hl a; intro a hl
            refine wl (w_buildSlice hl hh rfl trivial app132 zero129 rfl rfl rfl rfl rfl (by simp only [fillL, arrPl, List.range_succ, List.range_zero, List.map_cons, List.map_nil, List.map_append, List.nil_append, List.replicate_succ, List.replicate_zero, List.flatten_cons, List.flatten_nil, Nat.zero_mul, Nat.mul_one, Nat.one_mul, Nat.reduceMul, setL, List.getElem?_cons_zero, List.getElem?_cons_succ, Value.cells, List.take_zero, List.take_succ_cons, List.take_nil, List.drop_zero, List.drop_succ_cons, List.drop_nil, List.length_cons, List.length_nil, List.cons_append, List.nil_append, List.append_nil, Nat.zero_add, Nat.add_zero, Nat.reduceAdd, Nat.reduceBEq, Nat.reduceEqDiff, Nat.ble, BEq.rfl, Bool.and_true, Bool.and_self, cond_true, beq_self_eq_true]; rfl) ?_)
            clear hl hh a w; intro k91 a w hl hh
            refine wl (w_append (news := [.int .u64 (bitsOf .or .u64 st.pl (sh64 pk.2)), .slice np9 st.num.length nc9, .int .i64 (rdTs (st.num, st.nx) x.l.a).1.2]) hl hh rfl trivial app132 rfl rfl rfl hI.row (by repeat (first | exact keeps_nil | apply keeps_cons (by repeat (first | exact find_head | apply find_tail | apply find_skip)) (by first  | rfl) | exact keeps_self | exact keeps_left | apply keeps_app | apply keeps_mv | apply keeps_skip)) (hh.mem _ _ (Find.mem (by repeat (first | exact find_head | apply find_tail | apply find_skip)))) rfl rfl rfl (by omega) (by omega) (by omega) (by decide) ?_)
            clear hl hh a w; intro rv2 E2 a w hR2 hl hh
            have hh3 := hh.comm; clear hh; have hh := hh3; clear hh3
            try simp only [List.cons_append, List.nil_append, List.append_assoc, List.append_nil] at hh
            refine wl (wl_val hl rfl trivial (r_assign hl rfl) ?_)
            clear hl a; intro a hl
            refine w_nil ?_
            have hl2 := hl.add (t := 0) (hl.add (t := 1) (hl.add (t := 2) (hl.add (t := 7) (hl.add (t := 17) (hl.add (t := 18) (hl.add (t := 19) (hl.nil) rfl) rfl) rfl) rfl) rfl) rfl) rfl; clear hl; have hl := hl2; clear hl2
            obtain ⟨p8, c8, hv8⟩ := row_val hR2
            subst hv8
            generalize E2 = E8 at hh hR2
            have hrow8 : Row (.slice p8 (z.nbs ++ [(⟨bitsOf .or .u64 st.pl (sh64 pk.2), (rdTs (st.num, st.nx) x.l.a).1.1, (rdTs (st.num, st.nx) x.l.a).1.2, np9, nc9, jn9⟩ : SQ)]).length c8) (z.nbs ++ [(⟨bitsOf .or .u64 st.pl (sh64 pk.2), (rdTs (st.num, st.nx) x.l.a).1.1, (rdTs (st.num, st.nx) x.l.a).1.2, np9, nc9, jn9⟩ : SQ)]).length (fl SQ.cells (z.nbs ++ [⟨bitsOf .or .u64 st.pl (sh64 pk.2), (rdTs (st.num, st.nx) x.l.a).1.1, (rdTs (st.num, st.nx) x.l.a).1.2, np9, nc9, jn9⟩])) 3 129 E8 := row_snoc (f := SQ.cells) (by show Row _ _ (_ ++ [.int .u64 _, .slice np9 (rdTs (st.num, st.nx) x.l.a).1.1.length nc9, .int .i64 _]) 3 129 E8; rw [(rdTs_nl (st.num, st.nx) x.l.a).1]; exact hR2)
            have hh9 := has_sw hh (A := List.flatMap SQ.blk z.nbs ++ nbE np9 jn9 (rdTs (st.num, st.nx) x.l.a).1.1) (by repeat (first | exact keeps_nil | apply keeps_cons (by repeat (first | exact find_head | apply find_tail | apply find_skip)) (by first  | rfl) | exact keeps_self | exact keeps_left | apply keeps_app | apply keeps_mv | apply keeps_skip)) (A' := List.flatMap SQ.blk (z.nbs ++ [(⟨bitsOf .or .u64 st.pl (sh64 pk.2), (rdTs (st.num, st.nx) x.l.a).1.1, (rdTs (st.num, st.nx) x.l.a).1.2, np9, nc9, jn9⟩ : SQ)])) (by rw [List.flatMap_append]; simp [SQ.blk])
            clear hh; have hh := hh9; clear hh9
            try simp only [List.append_assoc, List.cons_append, List.nil_append] at hh
            refine blk_normal ?_
            refine then_normal ?_
            refine c_region ?_
            first | refine wl (wl_val hl rfl trivial (r_add hl rfl rfl (by simp only [Fits]; omega)) ?_) | refine wl (wl_val hl rfl trivial (r_addW hl rfl rfl) ?_)
            clear hl a; intro a hl
            refine wl (wl_val hl rfl trivial (r_move hl rfl) ?_)
            clear hl a; intro a hl
            refine w_nil ?_
            have hl2 := hl.add (t := 0) (hl.add (t := 1) (hl.add (t := 2) (hl.add (t := 7) (hl.add (t := 17) (hl.add (t := 18) (hl.add (t := 19) (hl.nil) rfl) rfl) rfl) rfl) rfl) rfl) rfl; clear hl; have hl := hl2; clear hl2
            refine then_normal ?_
            refine ⟨⟨z.k + 1, z.nbs ++ [⟨bitsOf .or .u64 st.pl (sh64 pk.2), (rdTs (st.num, st.nx) x.l.a).1.1, (rdTs (st.num, st.nx) x.l.a).1.2, np9, nc9, jn9⟩], p8, c8, E8⟩, (by simp only; omega), ⟨by simp only; omega, by show List.map SQ.core (z.nbs ++ [_]) = _; rw [List.map_append, hI.co, follow_no hpk hcore (X.at_ hx) htw9]; rfl, by show (z.nbs ++ [_]).length ≤ z.k + 1; rw [List.length_append, List.length_singleton]; omega, hrow8, fun b hb => by rcases List.mem_append.1 hb with h | h; exact hI.ok b h; (rw [List.mem_singleton] at h; subst h; exact new_ok hok hxo (hR0 st hstm) hRb hN9 _)⟩, hl.addE (t := 19) (hl.addE (t := 7) (hl.addE (t := 0) (hl.addE (t := 1) (hl.addE (t := 2) (hl.addE (t := 17) (hl.addE (t := 18) (hl.nil) rfl (by first | rfl | exact congrArg (Value.int .i64) (show (z.k : Int) + 1 = ((z.k + 1 : Nat) : Int) by omega) | (rw [hqp]) | (simp [List.length_append]; done))) rfl (by first | rfl | exact congrArg (Value.int .i64) (show (z.k : Int) + 1 = ((z.k + 1 : Nat) : Int) by omega) | (rw [hqp]) | (simp [List.length_append]; done))) rfl (by first | rfl | exact congrArg (Value.int .i64) (show (z.k : Int) + 1 = ((z.k + 1 : Nat) : Int) by omega) | (rw [hqp]) | (simp [List.length_append]; done))) rfl (by first | rfl | exact congrArg (Value.int .i64) (show (z.k : Int) + 1 = ((z.k + 1 : Nat) : Int) by omega) | (rw [hqp]) | (simp [List.length_append]; done))) rfl (by first | rfl | exact congrArg (Value.int .i64) (show (z.k : Int) + 1 = ((z.k + 1 : Nat) : Int) by omega) | (rw [hqp]) | (simp [List.length_append]; done))) rfl (by first | rfl | exact congrArg (Value.int .i64) (show (z.k : Int) + 1 = ((z.k + 1 : Nat) : Int) by omega) | (rw [hqp]) | (simp [List.length_append]; done))) rfl (by first | rfl | exact congrArg (Value.int .i64) (show (z.k : Int) + 1 = ((z.k + 1 : Nat) : Int) by omega) | (rw [hqp]) | (simp [List.length_append]; done)), hh.keep (by repeat (first | exact keeps_nil | apply keeps_cons (by repeat (first | exact find_head | apply find_tail | apply find_skip)) (by first  | rfl) | exact keeps_self | exact keeps_left | apply keeps_app | apply keeps_mv | apply keeps_skip))⟩
          ·
            try clear hM
            refine id (w_alloc hl hh rfl trivial zero129 rfl ?_)
            clear hl hh a w; intro k13 a w hl hh
            have hM : Mem [(fb, C (fl SQ.cells bs ++ jf) 129), (k9, C [.int .i64 (pk.1 : Int), .int .i64 (pk.2 : Int)] 181)] w := (by (repeat (first | exact Mem.nil | refine Mem.consR hh (by assumption) (by simp) ?_ | refine Mem.cons hh.mem (by (repeat (first | exact find_head | apply find_tail | apply find_skip)); done) ?_ | fail)); done)
            refine d_step (fun _ => hM) ?_
            refine d_one (i := 13) (by kernel_rfl) rfl ?_
            try clear hM
            refine id (w_appendCopy hl hh rfl trivial app58 rfl rfl rfl hok.n.row (fun b o m => heap_keep hh (hpre _ _ (hS.nb _ m))) (fl_one1 iI_one _) (by have := hok.len; have := hX.v6; omega) (by have := hok.len; have := hX.v6; omega) (by decide) ?_)
            clear hl hh a w; intro rv3 E3 a w hR3 hl hh
            have hh3 := hh.comm; clear hh; have hh := hh3; clear hh3
            try simp only [List.cons_append, List.nil_append, List.append_assoc, List.append_nil] at hh
            obtain ⟨np9, nc9, hv9⟩ := row_val hR3
            subst hv9
            obtain ⟨jn9, hE9, hN9⟩ := row_nok hR3
            subst hE9
            have hM : Mem [(fb, C (fl SQ.cells bs ++ jf) 129), (k9, C [.int .i64 (pk.1 : Int), .int .i64 (pk.2 : Int)] 181)] w := (by (repeat (first | exact Mem.nil | refine Mem.consR hh (by assumption) (by simp) ?_ | refine Mem.cons hh.mem (by (repeat (first | exact find_head | apply find_tail | apply find_skip)); done) ?_ | fail)); done)
            refine d_step (fun _ => hM) ?_
            refine d_take (i := 18) hl rfl (by kernel_rfl) (by kernel_rfl) (by kernel_rfl) (by kernel_rfl) (by kernel_rfl) rfl trivial (fun _ _ _ h => h) hM (fun w hC => r_build hl rfl zero129 bld129 (by simp only [fillL, setL, List.getElem?_cons_zero, List.getElem?_cons_succ, Value.cells, List.take_zero, List.take_succ_cons, List.take_nil, List.drop_zero, List.drop_succ_cons, List.drop_nil, List.length_cons, List.length_nil, List.cons_append, List.nil_append, List.append_nil, Nat.zero_add, Nat.add_zero, Nat.reduceAdd, Nat.reduceBEq, Nat.reduceEqDiff, Nat.ble, BEq.rfl, Bool.and_true, Bool.and_self, cond_true, beq_self_eq_true]; rfl)) rfl ?_
            clear hl a; intro a hl
            refine d_one (i := 20) (by kernel_rfl) rfl ?_
            try clear hM
            refine id (w_storeA hl hh trivial agg129 rfl rfl (by repeat (first | exact find_head | apply find_tail | apply find_skip)) (by first | rfl | (simp; done)) (by first | (simp; done) | (simp; omega)) (by first | rfl | (simp; done) | rfl) (by first | (simp only [setL, List.getElem?_cons_zero, List.getElem?_cons_succ, Value.cells, List.take_zero, List.take_succ_cons, List.take_nil, List.drop_zero, List.drop_succ_cons, List.drop_nil, List.length_cons, List.length_nil, List.cons_append, List.nil_append, List.append_nil, Nat.zero_add, Nat.add_zero, Nat.reduceAdd, Nat.reduceBEq, Nat.reduceEqDiff, Nat.ble, BEq.rfl, Bool.and_true, Bool.and_self, cond_true, beq_self_eq_true]; rfl)) ?_)
            clear hh w; intro w hh
            refine d_step (fun h => absurd h (by decide)) ?_
            refine d_done (by kernel_rfl) ?_
            try clear hM
            have hl2 := hl.add (t := 0) (hl.add (t := 1) (hl.add (t := 2) (hl.add (t := 7) (hl.add (t := 9) (hl.add (t := 13) (hl.add (t := 17) (hl.add (t := 18) (hl.add (t := 19) (hl.nil) rfl) rfl) rfl) rfl) rfl) rfl) rfl) rfl) rfl; clear hl; have hl := hl2; clear hl2
            refine then_normal ?_
            refine c_seq ?_
            refine c_draw [(X.sb, C [.string X.hs, X.hv, .slice (some ⟨X.bb, 0, none⟩) X.xs.length X.xs.length, .int .i64 (X.vs : Int), .slice (some ⟨X.ob, 0, none⟩) X.vs X.vs] 127), (X.bb, C (fl LV.c4 X.xs) 48), (k9, C [.int .i64 (pk.1 : Int), .int .i64 (pk.2 : Int)] 181)] [10] mixed hh ?_
            clear hh w; intro w hh
            have hM : Mem [(X.sb, C [.string X.hs, X.hv, .slice (some ⟨X.bb, 0, none⟩) X.xs.length X.xs.length, .int .i64 (X.vs : Int), .slice (some ⟨X.ob, 0, none⟩) X.vs X.vs] 127), (X.bb, C (fl LV.c4 X.xs) 48), (k9, C [.int .i64 (pk.1 : Int), .int .i64 (pk.2 : Int)] 181)] w := (by (repeat (first | exact Mem.nil | refine Mem.consR hh (by assumption) (by simp) ?_ | refine Mem.cons hh.mem (by (repeat (first | exact find_head | apply find_tail | apply find_skip)); done) ?_ | fail)); done)
            refine d_take (i := 0) hl rfl (by kernel_rfl) (by kernel_rfl) (by kernel_rfl) (by kernel_rfl) (by kernel_rfl) rfl trivial (fun _ _ _ h => h) hM (fun w hC => r_move hl rfl) rfl ?_
            clear hl a; intro a hl
            refine d_take (i := 1) hl rfl (by kernel_rfl) (by kernel_rfl) (by kernel_rfl) (by kernel_rfl) (by kernel_rfl) rfl trivial (fun _ _ _ h => h) hM (fun w hC => r_nilCheck hl rfl) rfl ?_
            clear hl a; intro a hl
            refine d_take (i := 2) hl rfl (by kernel_rfl) (by kernel_rfl) (by kernel_rfl) (by kernel_rfl) (by kernel_rfl) rfl trivial (fun _ _ _ h => h) hM (fun w hC => r_field hl rfl fld127_1) rfl ?_
            clear hl a; intro a hl
            refine d_take (i := 3) hl rfl (by kernel_rfl) (by kernel_rfl) (by kernel_rfl) (by kernel_rfl) (by kernel_rfl) rfl trivial (fun _ _ _ h => h) hM (fun w hC => r_loadC hl rfl one55 hC (by repeat (first | exact find_head | apply find_tail | apply find_skip)) (by rfl)) rfl ?_
            clear hl a; intro a hl
            refine d_take (i := 4) hl rfl (by kernel_rfl) (by kernel_rfl) (by kernel_rfl) (by kernel_rfl) (by kernel_rfl) rfl trivial (fun _ _ _ h => h) hM (fun w hC => r_field hl rfl fld181_1) rfl ?_
            clear hl a; intro a hl
            refine d_take (i := 5) hl rfl (by kernel_rfl) (by kernel_rfl) (by kernel_rfl) (by kernel_rfl) (by kernel_rfl) rfl trivial (fun _ _ _ h => h) hM (fun w hC => r_loadC hl rfl one3 hC (by repeat (first | exact find_head | apply find_tail | apply find_skip)) (by first | rfl)) rfl ?_
            clear hl a; intro a hl
            refine d_take (i := 6) hl rfl (by kernel_rfl) (by kernel_rfl) (by kernel_rfl) (by kernel_rfl) (by kernel_rfl) rfl trivial (fun _ _ _ h => h) hM (fun w hC => r_indexS hl rfl rfl slc55 (by omega) (by omega) (by first | (simp only [Int.reduceToNat]; rfl) | exact toNat_add1 _ | exact toNat_add2 _ _ | exact toNat_emod _ _ | exact Int.toNat_natCast _ | rfl)) rfl ?_
            clear hl a; intro a hl
            refine d_take (i := 7) hl rfl (by kernel_rfl) (by kernel_rfl) (by kernel_rfl) (by kernel_rfl) (by kernel_rfl) rfl trivial (fun _ _ _ h => h) hM (fun w hC => r_field hl rfl fld48_2) rfl ?_
            clear hl a; intro a hl
            refine d_take (i := 8) hl rfl (by kernel_rfl) (by kernel_rfl) (by kernel_rfl) (by kernel_rfl) (by kernel_rfl) rfl trivial (fun _ _ _ h => h) hM (fun w hC => r_field hl rfl fld46_1) rfl ?_
            clear hl a; intro a hl
            refine d_take (i := 9) hl rfl (by kernel_rfl) (by kernel_rfl) (by kernel_rfl) (by kernel_rfl) (by kernel_rfl) rfl trivial (fun _ _ _ h => h) hM (fun w hC => r_loadC hl rfl one42 hC (by repeat (first | exact find_head | apply find_tail | apply find_skip)) (by exact c4_args hx)) rfl ?_
            clear hl a; intro a hl
            refine d_one (i := 10) (by kernel_rfl) rfl ?_
            try clear hM
            refine id (w_call hl hh rfl trivial rfl cal57 rfl (read_keep k13 0 [.int .u64 (bitsOf .or .u64 st.pl (sh64 pk.2)), .slice np9 st.num.length nc9, .int .i64 st.nx] 129 st.num np9 nc9 jn9 hN9 st.nx x.l.a x.p x.c x.E hxo.ags (apartK hh (by repeat (first | exact keeps_nil | apply keeps_cons (by repeat (first | exact find_head | apply find_tail | apply find_skip)) (by first  | rfl) | exact keeps_self | exact keeps_left | apply keeps_app | apply keeps_mv | apply keeps_skip)) hxE) rfl rfl (fun t ht hk => by rw [hok.len]; exact hX.vb x t hxm ht hk) (by rw [hok.len]; exact hX.v6) hok.nx) (by repeat (first | exact keeps_nil | apply keeps_cons (by repeat (first | exact find_head | apply find_tail | apply find_skip)) (by first  | rfl) | exact keeps_self | exact keeps_left | apply keeps_app | apply keeps_mv | apply keeps_skip)) (mem_keep hh hxE) ?_)
            clear hl hh a w; intro vc Fc a w hR hl hh
            obtain ⟨Eo, hRo, rfl⟩ := hR
            try simp only [List.cons_append, List.nil_append, List.append_assoc, List.append_nil] at hh
            simp only [setL, Nat.zero_add, List.take_succ_cons, List.take_zero, List.drop_succ_cons, List.drop_zero, List.drop_nil, List.cons_append, List.nil_append, List.length_cons, List.length_nil, Nat.reduceAdd, List.append_nil] at hh
            refine d_step (fun h => absurd h (by decide)) ?_
            refine d_done (by kernel_rfl) ?_
            try clear hM
            have hl2 := hl.add (t := 0) (hl.add (t := 1) (hl.add (t := 2) (hl.add (t := 7) (hl.add (t := 13) (hl.add (t := 17) (hl.add (t := 18) (hl.add (t := 19) (hl.nil) rfl) rfl) rfl) rfl) rfl) rfl) rfl) rfl; clear hl; have hl := hl2; clear hl2
            refine then_normal ?_
            refine c_region ?_
            refine wl (wl_val hl rfl trivial (r_move hl rfl) ?_)
            clear hl a; intro a hl
            first | refine wl (w_loadA hl hh rfl trivial agg129 rfl (by repeat (first | exact find_head | apply find_tail | apply find_skip)) (by first | (simp only [List.getElem?_cons_zero, List.getElem?_cons_succ, Value.cells, List.take_zero, List.take_succ_cons, List.take_nil, List.drop_zero, List.drop_succ_cons, List.drop_nil, List.length_cons, List.length_nil, List.cons_append, List.nil_append, List.append_nil, Nat.zero_add, Nat.add_zero, Nat.reduceAdd, Nat.reduceBEq, Nat.reduceEqDiff, Nat.ble, BEq.rfl, Bool.and_true, Bool.and_self, cond_true, beq_self_eq_true]; rfl)) (by first | rfl | (simp; done)) ?_) | refine wl (w_loadRA hl hh rfl trivial agg129 rfl hmp (by simp) hq9 rfl ?_)
            clear hl a; intro a hl
            refine wl (w_buildSlice hl hh rfl trivial app132 zero129 rfl rfl rfl rfl rfl (by simp only [fillL, arrPl, List.range_succ, List.range_zero, List.map_cons, List.map_nil, List.map_append, List.nil_append, List.replicate_succ, List.replicate_zero, List.flatten_cons, List.flatten_nil, Nat.zero_mul, Nat.mul_one, Nat.one_mul, Nat.reduceMul, setL, List.getElem?_cons_zero, List.getElem?_cons_succ, Value.cells, List.take_zero, List.take_succ_cons, List.take_nil, List.drop_zero, List.drop_succ_cons, List.drop_nil, List.length_cons, List.length_nil, List.cons_append, List.nil_append, List.append_nil, Nat.zero_add, Nat.add_zero, Nat.reduceAdd, Nat.reduceBEq, Nat.reduceEqDiff, Nat.ble, BEq.rfl, Bool.and_true, Bool.and_self, cond_true, beq_self_eq_true]; rfl) ?_)
            clear hl hh a w; intro k91 a w hl hh
            refine wl (w_append (news := [.int .u64 (bitsOf .or .u64 st.pl (sh64 pk.2)), .slice np9 st.num.length nc9, .int .i64 (rdTs (st.num, st.nx) x.l.a).1.2]) hl hh rfl trivial app132 rfl rfl rfl hI.row (by repeat (first | exact keeps_nil | apply keeps_cons (by repeat (first | exact find_head | apply find_tail | apply find_skip)) (by first  | rfl) | exact keeps_self | exact keeps_left | apply keeps_app | apply keeps_mv | apply keeps_skip)) (hh.mem _ _ (Find.mem (by repeat (first | exact find_head | apply find_tail | apply find_skip)))) rfl rfl rfl (by omega) (by omega) (by omega) (by decide) ?_)
            clear hl hh a w; intro rv2 E2 a w hR2 hl hh
            have hh3 := hh.comm; clear hh; have hh := hh3; clear hh3
            try simp only [List.cons_append, List.nil_append, List.append_assoc, List.append_nil] at hh
            refine wl (wl_val hl rfl trivial (r_assign hl rfl) ?_)
            clear hl a; intro a hl
            refine w_nil ?_
            have hl2 := hl.add (t := 0) (hl.add (t := 1) (hl.add (t := 2) (hl.add (t := 7) (hl.add (t := 17) (hl.add (t := 18) (hl.add (t := 19) (hl.nil) rfl) rfl) rfl) rfl) rfl) rfl) rfl; clear hl; have hl := hl2; clear hl2
            obtain ⟨p8, c8, hv8⟩ := row_val hR2
            subst hv8
            generalize E2 = E8 at hh hR2
            have hrow8 : Row (.slice p8 (z.nbs ++ [(⟨bitsOf .or .u64 st.pl (sh64 pk.2), (rdTs (st.num, st.nx) x.l.a).1.1, (rdTs (st.num, st.nx) x.l.a).1.2, np9, nc9, jn9⟩ : SQ)]).length c8) (z.nbs ++ [(⟨bitsOf .or .u64 st.pl (sh64 pk.2), (rdTs (st.num, st.nx) x.l.a).1.1, (rdTs (st.num, st.nx) x.l.a).1.2, np9, nc9, jn9⟩ : SQ)]).length (fl SQ.cells (z.nbs ++ [⟨bitsOf .or .u64 st.pl (sh64 pk.2), (rdTs (st.num, st.nx) x.l.a).1.1, (rdTs (st.num, st.nx) x.l.a).1.2, np9, nc9, jn9⟩])) 3 129 E8 := row_snoc (f := SQ.cells) (by show Row _ _ (_ ++ [.int .u64 _, .slice np9 (rdTs (st.num, st.nx) x.l.a).1.1.length nc9, .int .i64 _]) 3 129 E8; rw [(rdTs_nl (st.num, st.nx) x.l.a).1]; exact hR2)
            have hh9 := has_sw hh (A := List.flatMap SQ.blk z.nbs ++ nbE np9 jn9 (rdTs (st.num, st.nx) x.l.a).1.1) (by repeat (first | exact keeps_nil | apply keeps_cons (by repeat (first | exact find_head | apply find_tail | apply find_skip)) (by first  | rfl) | exact keeps_self | exact keeps_left | apply keeps_app | apply keeps_mv | apply keeps_skip)) (A' := List.flatMap SQ.blk (z.nbs ++ [(⟨bitsOf .or .u64 st.pl (sh64 pk.2), (rdTs (st.num, st.nx) x.l.a).1.1, (rdTs (st.num, st.nx) x.l.a).1.2, np9, nc9, jn9⟩ : SQ)])) (by rw [List.flatMap_append]; simp [SQ.blk])
            clear hh; have hh := hh9; clear hh9
            try simp only [List.append_assoc, List.cons_append, List.nil_append] at hh
            refine blk_normal ?_
            refine then_normal ?_
            refine c_region ?_
            first | refine wl (wl_val hl rfl trivial (r_add hl rfl rfl (by simp only [Fits]; omega)) ?_) | refine wl (wl_val hl rfl trivial (r_addW hl rfl rfl) ?_)
            clear hl a; intro a hl
            refine wl (wl_val hl rfl trivial (r_move hl rfl) ?_)
            clear hl a; intro a hl
            refine w_nil ?_
            have hl2 := hl.add (t := 0) (hl.add (t := 1) (hl.add (t := 2) (hl.add (t := 7) (hl.add (t := 17) (hl.add (t := 18) (hl.add (t := 19) (hl.nil) rfl) rfl) rfl) rfl) rfl) rfl) rfl; clear hl; have hl := hl2; clear hl2
            refine then_normal ?_
            refine ⟨⟨z.k + 1, z.nbs ++ [⟨bitsOf .or .u64 st.pl (sh64 pk.2), (rdTs (st.num, st.nx) x.l.a).1.1, (rdTs (st.num, st.nx) x.l.a).1.2, np9, nc9, jn9⟩], p8, c8, E8⟩, (by simp only; omega), ⟨by simp only; omega, by show List.map SQ.core (z.nbs ++ [_]) = _; rw [List.map_append, hI.co, follow_no hpk hcore (X.at_ hx) htw9]; rfl, by show (z.nbs ++ [_]).length ≤ z.k + 1; rw [List.length_append, List.length_singleton]; omega, hrow8, fun b hb => by rcases List.mem_append.1 hb with h | h; exact hI.ok b h; (rw [List.mem_singleton] at h; subst h; exact new_ok hok hxo (hR0 st hstm) hRb hN9 _)⟩, hl.addE (t := 19) (hl.addE (t := 7) (hl.addE (t := 0) (hl.addE (t := 1) (hl.addE (t := 2) (hl.addE (t := 17) (hl.addE (t := 18) (hl.nil) rfl (by first | rfl | exact congrArg (Value.int .i64) (show (z.k : Int) + 1 = ((z.k + 1 : Nat) : Int) by omega) | (rw [hqp]) | (simp [List.length_append]; done))) rfl (by first | rfl | exact congrArg (Value.int .i64) (show (z.k : Int) + 1 = ((z.k + 1 : Nat) : Int) by omega) | (rw [hqp]) | (simp [List.length_append]; done))) rfl (by first | rfl | exact congrArg (Value.int .i64) (show (z.k : Int) + 1 = ((z.k + 1 : Nat) : Int) by omega) | (rw [hqp]) | (simp [List.length_append]; done))) rfl (by first | rfl | exact congrArg (Value.int .i64) (show (z.k : Int) + 1 = ((z.k + 1 : Nat) : Int) by omega) | (rw [hqp]) | (simp [List.length_append]; done))) rfl (by first | rfl | exact congrArg (Value.int .i64) (show (z.k : Int) + 1 = ((z.k + 1 : Nat) : Int) by omega) | (rw [hqp]) | (simp [List.length_append]; done))) rfl (by first | rfl | exact congrArg (Value.int .i64) (show (z.k : Int) + 1 = ((z.k + 1 : Nat) : Int) by omega) | (rw [hqp]) | (simp [List.length_append]; done))) rfl (by first | rfl | exact congrArg (Value.int .i64) (show (z.k : Int) + 1 = ((z.k + 1 : Nat) : Int) by omega) | (rw [hqp]) | (simp [List.length_append]; done)), hh.keep (by repeat (first | exact keeps_nil | apply keeps_cons (by repeat (first | exact find_head | apply find_tail | apply find_skip)) (by first  | rfl) | exact keeps_self | exact keeps_left | apply keeps_app | apply keeps_mv | apply keeps_skip))⟩
    · intro hg1; clear hl; intro hl
      try simp only [decide_eq_true_eq, decide_eq_false_iff_not, Bool.not_eq_true', Bool.not_eq_false', Bool.not_eq_true, Bool.not_eq_false, Bool.and_eq_true, Bool.or_eq_true, Bool.and_eq_false_iff, Bool.or_eq_false_iff, Bool.not_not, ne_eq, Int.not_lt, Int.not_le, Decidable.not_not, beq_iff_eq, bne_iff_ne] at hg1
      refine d_skip (i := 3) hl rfl (by kernel_rfl) (by kernel_rfl) (by kernel_rfl) (by kernel_rfl) (by kernel_rfl) rfl ⟨_, _, rfl, rfl, rfl⟩ (fun _ _ _ h => h) hM ?_
      clear hl a; intro a hl
      refine d_skip (i := 4) hl rfl (by kernel_rfl) (by kernel_rfl) (by kernel_rfl) (by kernel_rfl) (by kernel_rfl) rfl ⟨_, _, rfl, rfl, rfl⟩ (fun _ _ _ h => h) hM ?_
      clear hl a; intro a hl
      refine d_skip (i := 5) hl rfl (by kernel_rfl) (by kernel_rfl) (by kernel_rfl) (by kernel_rfl) (by kernel_rfl) rfl ⟨_, _, rfl, rfl, rfl⟩ (fun _ _ _ h => h) hM ?_
      clear hl a; intro a hl
      refine d_skip (i := 6) hl rfl (by kernel_rfl) (by kernel_rfl) (by kernel_rfl) (by kernel_rfl) (by kernel_rfl) rfl ⟨_, _, rfl, rfl, rfl⟩ (fun _ _ _ h => h) hM ?_
      clear hl a; intro a hl
      refine d_skip (i := 7) hl rfl (by kernel_rfl) (by kernel_rfl) (by kernel_rfl) (by kernel_rfl) (by kernel_rfl) rfl ⟨_, _, rfl, rfl, rfl⟩ (fun _ _ _ h => h) hM ?_
      clear hl a; intro a hl
      refine d_skip (i := 8) hl rfl (by kernel_rfl) (by kernel_rfl) (by kernel_rfl) (by kernel_rfl) (by kernel_rfl) rfl ⟨_, _, rfl, rfl, rfl⟩ (fun _ _ _ h => h) hM ?_
      clear hl a; intro a hl
      refine d_skip (i := 9) hl rfl (by kernel_rfl) (by kernel_rfl) (by kernel_rfl) (by kernel_rfl) (by kernel_rfl) rfl ⟨_, _, rfl, rfl, rfl⟩ (fun _ _ _ h => h) hM ?_
      clear hl a; intro a hl
      refine d_skip (i := 10) hl rfl (by kernel_rfl) (by kernel_rfl) (by kernel_rfl) (by kernel_rfl) (by kernel_rfl) rfl ⟨_, _, rfl, rfl, rfl⟩ (fun _ _ _ h => h) hM ?_
      clear hl a; intro a hl
      refine d_takeL (i := 11) hl rfl (by kernel_rfl) (by kernel_rfl) (by kernel_rfl) (by kernel_rfl) (by kernel_rfl) rfl trivial (fun _ _ _ h => h) (fun w => r_pickF hl rfl rfl) rfl ?_
      clear hl a; intro a hl
      refine d_takeL (i := 12) hl rfl (by kernel_rfl) (by kernel_rfl) (by kernel_rfl) (by kernel_rfl) (by kernel_rfl) rfl trivial (fun _ _ _ h => h) (fun w => r_move hl rfl) rfl ?_
      clear hl a; intro a hl
      refine d_skip (i := 13) hl rfl (by kernel_rfl) (by kernel_rfl) (by kernel_rfl) (by kernel_rfl) (by kernel_rfl) rfl ⟨_, _, rfl, rfl, rfl⟩ (fun _ _ _ h => h) hM ?_
      clear hl a; intro a hl
      refine d_skip (i := 14) hl rfl (by kernel_rfl) (by kernel_rfl) (by kernel_rfl) (by kernel_rfl) (by kernel_rfl) rfl ⟨_, _, rfl, rfl, rfl⟩ (fun _ _ _ h => h) hM ?_
      clear hl a; intro a hl
      refine d_takeL (i := 15) hl rfl (by kernel_rfl) (by kernel_rfl) (by kernel_rfl) (by kernel_rfl) (by kernel_rfl) rfl trivial (fun _ _ _ h => h) (fun w => r_pickF hl rfl rfl) rfl ?_
      clear hl a; intro a hl
      refine d_done (by kernel_rfl) ?_
      try clear hM
      have hl2 := hl.add (t := 0) (hl.add (t := 1) (hl.add (t := 2) (hl.add (t := 7) (hl.add (t := 9) (hl.add (t := 10) (hl.add (t := 11) (hl.add (t := 12) (hl.add (t := 17) (hl.add (t := 18) (hl.add (t := 19) (hl.add (t := 45) (hl.nil) rfl) rfl) rfl) rfl) rfl) rfl) rfl) rfl) rfl) rfl) rfl) rfl; clear hl; have hl := hl2; clear hl2
      refine then_normal ?_
      refine c_condF hl rfl ?_
      have htw : twL X.B X.oc st.core picks pk x.l z.k = tw := by
        cases htw0 : tw with
        | true => exact ht2 htw0
        | false =>
          rw [ht1 htw0]
          first | (exfalso; simp_all; done) | (have h0 : jn = 0 := (by omega); rw [h0]; rfl) | exact twL_ne hpr (by omega)
      refine wp_exit ?_
      refine then_exit ?_
      refine then_exit ?_
      refine blk_exit ?_
      refine then_normal ?_
      refine c_seq ?_
      refine c_seq ?_
      refine c_region ?_
      refine wl (wl_val hl rfl trivial (r_move hl rfl) ?_)
      clear hl a; intro a hl
      refine w_nil ?_
      have hl2 := hl.add (t := 0) (hl.add (t := 1) (hl.add (t := 2) (hl.add (t := 7) (hl.add (t := 9) (hl.add (t := 10) (hl.add (t := 17) (hl.add (t := 18) (hl.add (t := 19) (hl.add (t := 58) (hl.nil) rfl) rfl) rfl) rfl) rfl) rfl) rfl) rfl) rfl) rfl; clear hl; have hl := hl2; clear hl2
      refine then_normal ?_
      refine c_cond hl rfl ?_ ?_
      · intro hc2
        try simp only [decide_eq_true_eq, decide_eq_false_iff_not, Bool.not_eq_true', Bool.not_eq_false', Bool.not_eq_true, Bool.not_eq_false, Bool.and_eq_true, Bool.or_eq_true, Bool.and_eq_false_iff, Bool.or_eq_false_iff, Bool.not_not, ne_eq, Int.not_lt, Int.not_le, Decidable.not_not, beq_iff_eq, bne_iff_ne] at hc2
        have htw9 : twL X.B X.oc st.core picks pk x.l z.k = true := by rw [htw]; first | exact hc2 | simp_all
        refine wp_exit ?_
        refine then_exit ?_
        refine blk_exit ?_
        refine then_normal ?_
        refine c_region ?_
        first | refine wl (wl_val hl rfl trivial (r_add hl rfl rfl (by simp only [Fits]; omega)) ?_) | refine wl (wl_val hl rfl trivial (r_addW hl rfl rfl) ?_)
        clear hl a; intro a hl
        refine wl (wl_val hl rfl trivial (r_move hl rfl) ?_)
        clear hl a; intro a hl
        refine w_nil ?_
        have hl2 := hl.add (t := 0) (hl.add (t := 1) (hl.add (t := 2) (hl.add (t := 7) (hl.add (t := 17) (hl.add (t := 18) (hl.add (t := 19) (hl.nil) rfl) rfl) rfl) rfl) rfl) rfl) rfl; clear hl; have hl := hl2; clear hl2
        refine then_normal ?_
        refine ⟨⟨z.k + 1, z.nbs, z.p, z.c, z.E⟩, (by simp only; omega), ⟨by simp only; omega, hI.co.trans (follow_yes hpk hcore (X.at_ hx) htw9).symm, by simp only; omega, hI.row, hI.ok⟩, hl.addE (t := 19) (hl.addE (t := 7) (hl.addE (t := 0) (hl.addE (t := 1) (hl.addE (t := 2) (hl.addE (t := 17) (hl.addE (t := 18) (hl.nil) rfl (by first | rfl | exact congrArg (Value.int .i64) (show (z.k : Int) + 1 = ((z.k + 1 : Nat) : Int) by omega) | (rw [hqp]) | (simp [List.length_append]; done))) rfl (by first | rfl | exact congrArg (Value.int .i64) (show (z.k : Int) + 1 = ((z.k + 1 : Nat) : Int) by omega) | (rw [hqp]) | (simp [List.length_append]; done))) rfl (by first | rfl | exact congrArg (Value.int .i64) (show (z.k : Int) + 1 = ((z.k + 1 : Nat) : Int) by omega) | (rw [hqp]) | (simp [List.length_append]; done))) rfl (by first | rfl | exact congrArg (Value.int .i64) (show (z.k : Int) + 1 = ((z.k + 1 : Nat) : Int) by omega) | (rw [hqp]) | (simp [List.length_append]; done))) rfl (by first | rfl | exact congrArg (Value.int .i64) (show (z.k : Int) + 1 = ((z.k + 1 : Nat) : Int) by omega) | (rw [hqp]) | (simp [List.length_append]; done))) rfl (by first | rfl | exact congrArg (Value.int .i64) (show (z.k : Int) + 1 = ((z.k + 1 : Nat) : Int) by omega) | (rw [hqp]) | (simp [List.length_append]; done))) rfl (by first | rfl | exact congrArg (Value.int .i64) (show (z.k : Int) + 1 = ((z.k + 1 : Nat) : Int) by omega) | (rw [hqp]) | (simp [List.length_append]; done)), hh.keep (by repeat (first | exact keeps_nil | apply keeps_cons (by repeat (first | exact find_head | apply find_tail | apply find_skip)) (by first  | rfl) | exact keeps_self | exact keeps_left | apply keeps_app | apply keeps_mv | apply keeps_skip))⟩
      · intro hc2
        try simp only [decide_eq_true_eq, decide_eq_false_iff_not, Bool.not_eq_true', Bool.not_eq_false', Bool.not_eq_true, Bool.not_eq_false, Bool.and_eq_true, Bool.or_eq_true, Bool.and_eq_false_iff, Bool.or_eq_false_iff, Bool.not_not, ne_eq, Int.not_lt, Int.not_le, Decidable.not_not, beq_iff_eq, bne_iff_ne] at hc2
        have htw9 : twL X.B X.oc st.core picks pk x.l z.k = false := by rw [htw]; first | exact hc2 | simp_all
        refine wp_skip ?_
        refine then_normal ?_
        refine c_seq ?_
        refine c_draw [(fb, C (fl SQ.cells bs ++ jf) 129), (k9, C [.int .i64 (pk.1 : Int), .int .i64 (pk.2 : Int)] 181)] [20] mixed hh ?_
        clear hh w; intro w hh
        have hM : Mem [(fb, C (fl SQ.cells bs ++ jf) 129), (k9, C [.int .i64 (pk.1 : Int), .int .i64 (pk.2 : Int)] 181)] w := (by (repeat (first | exact Mem.nil | refine Mem.consR hh (by assumption) (by simp) ?_ | refine Mem.cons hh.mem (by (repeat (first | exact find_head | apply find_tail | apply find_skip)); done) ?_ | fail)); done)
        refine d_take (i := 0) hl rfl (by kernel_rfl) (by kernel_rfl) (by kernel_rfl) (by kernel_rfl) (by kernel_rfl) rfl trivial (fun _ _ _ h => h) hM (fun w hC => r_move hl rfl) rfl ?_
        clear hl a; intro a hl
        refine d_take (i := 1) hl rfl (by kernel_rfl) (by kernel_rfl) (by kernel_rfl) (by kernel_rfl) (by kernel_rfl) rfl trivial (fun _ _ _ h => h) hM (fun w hC => r_nilCheck hl rfl) rfl ?_
        clear hl a; intro a hl
        refine d_take (i := 2) hl rfl (by kernel_rfl) (by kernel_rfl) (by kernel_rfl) (by kernel_rfl) (by kernel_rfl) rfl trivial (fun _ _ _ h => h) hM (fun w hC => r_field hl rfl fld129_0) rfl ?_
        clear hl a; intro a hl
        refine d_take (i := 3) hl rfl (by kernel_rfl) (by kernel_rfl) (by kernel_rfl) (by kernel_rfl) (by kernel_rfl) rfl trivial (fun _ _ _ h => h) hM (fun w hC => r_loadC hl rfl one49 hC (by repeat (first | exact find_head | apply find_tail | apply find_skip)) (by exact hS.at_.1)) rfl ?_
        clear hl a; intro a hl
        refine d_take (i := 4) hl rfl (by kernel_rfl) (by kernel_rfl) (by kernel_rfl) (by kernel_rfl) (by kernel_rfl) rfl trivial (fun _ _ _ h => h) hM (fun w hC => r_field hl rfl fld181_1) rfl ?_
        clear hl a; intro a hl
        refine d_take (i := 5) hl rfl (by kernel_rfl) (by kernel_rfl) (by kernel_rfl) (by kernel_rfl) (by kernel_rfl) rfl trivial (fun _ _ _ h => h) hM (fun w hC => r_loadC hl rfl one3 hC (by repeat (first | exact find_head | apply find_tail | apply find_skip)) (by first | rfl)) rfl ?_
        clear hl a; intro a hl
        first | refine d_take (i := 6) hl rfl (by kernel_rfl) (by kernel_rfl) (by kernel_rfl) (by kernel_rfl) (by kernel_rfl) rfl trivial (fun _ _ _ h => h) hM (fun w hC => r_conv hl rfl Tryz.underlying3 Tryz.underlying106 (by simp only [Fits]; omega)) rfl ?_ | refine d_take (i := 6) hl rfl (by kernel_rfl) (by kernel_rfl) (by kernel_rfl) (by kernel_rfl) (by kernel_rfl) rfl trivial (fun _ _ _ h => h) hM (fun w hC => r_convW hl rfl Tryz.underlying3 Tryz.underlying106) rfl ?_
        clear hl a; intro a hl
        refine d_take (i := 7) hl rfl (by kernel_rfl) (by kernel_rfl) (by kernel_rfl) (by kernel_rfl) (by kernel_rfl) rfl trivial (fun _ _ _ h => h) hM (fun w hC => r_shl hl rfl rfl (by omega)) rfl ?_
        clear hl a; intro a hl
        rw [sh64_eq] at hl
        refine d_take (i := 8) hl rfl (by kernel_rfl) (by kernel_rfl) (by kernel_rfl) (by kernel_rfl) (by kernel_rfl) rfl trivial (fun _ _ _ h => h) hM (fun w hC => r_or hl rfl rfl) rfl ?_
        clear hl a; intro a hl
        refine d_take (i := 9) hl rfl (by kernel_rfl) (by kernel_rfl) (by kernel_rfl) (by kernel_rfl) (by kernel_rfl) rfl trivial (fun _ _ _ h => h) hM (fun w hC => r_move hl rfl) rfl ?_
        clear hl a; intro a hl
        refine d_take (i := 10) hl rfl (by kernel_rfl) (by kernel_rfl) (by kernel_rfl) (by kernel_rfl) (by kernel_rfl) rfl trivial (fun _ _ _ h => h) hM (fun w hC => r_nilCheck hl rfl) rfl ?_
        clear hl a; intro a hl
        refine d_take (i := 11) hl rfl (by kernel_rfl) (by kernel_rfl) (by kernel_rfl) (by kernel_rfl) (by kernel_rfl) rfl trivial (fun _ _ _ h => h) hM (fun w hC => r_field hl rfl fld129_1) rfl ?_
        clear hl a; intro a hl
        refine d_take (i := 12) hl rfl (by kernel_rfl) (by kernel_rfl) (by kernel_rfl) (by kernel_rfl) (by kernel_rfl) rfl trivial (fun _ _ _ h => h) hM (fun w hC => r_loadC hl rfl one58 hC (by repeat (first | exact find_head | apply find_tail | apply find_skip)) (by exact hS.at_.2.1)) rfl ?_
        clear hl a; intro a hl
        refine d_take (i := 14) hl rfl (by kernel_rfl) (by kernel_rfl) (by kernel_rfl) (by kernel_rfl) (by kernel_rfl) rfl trivial (fun _ _ _ h => h) hM (fun w hC => r_move hl rfl) rfl ?_
        clear hl a; intro a hl
        refine d_take (i := 15) hl rfl (by kernel_rfl) (by kernel_rfl) (by kernel_rfl) (by kernel_rfl) (by kernel_rfl) rfl trivial (fun _ _ _ h => h) hM (fun w hC => r_nilCheck hl rfl) rfl ?_
        clear hl a; intro a hl
        refine d_take (i := 16) hl rfl (by kernel_rfl) (by kernel_rfl) (by kernel_rfl) (by kernel_rfl) (by kernel_rfl) rfl trivial (fun _ _ _ h => h) hM (fun w hC => r_field hl rfl fld129_2) rfl ?_
        clear hl a; intro a hl
        refine d_take (i := 17) hl rfl (by kernel_rfl) (by kernel_rfl) (by kernel_rfl) (by kernel_rfl) (by kernel_rfl) rfl trivial (fun _ _ _ h => h) hM (fun w hC => r_loadC hl rfl one3 hC (by repeat (first | exact find_head | apply find_tail | apply find_skip)) (by exact hS.at_.2.2)) rfl ?_
        clear hl a; intro a hl
        refine d_two (i := 13) (j := 19) (by kernel_rfl) rfl rfl ?_ ?_
        ·
          try clear hM
          refine id (w_appendCopy hl hh rfl trivial app58 rfl rfl rfl hok.n.row (fun b o m => heap_keep hh (hpre _ _ (hS.nb _ m))) (fl_one1 iI_one _) (by have := hok.len; have := hX.v6; omega) (by have := hok.len; have := hX.v6; omega) (by decide) ?_)
          clear hl hh a w; intro rv3 E3 a w hR3 hl hh
          have hh3 := hh.comm; clear hh; have hh := hh3; clear hh3
          try simp only [List.cons_append, List.nil_append, List.append_assoc, List.append_nil] at hh
          obtain ⟨np9, nc9, hv9⟩ := row_val hR3
          subst hv9
          obtain ⟨jn9, hE9, hN9⟩ := row_nok hR3
          subst hE9
          have hM : Mem [(fb, C (fl SQ.cells bs ++ jf) 129), (k9, C [.int .i64 (pk.1 : Int), .int .i64 (pk.2 : Int)] 181)] w := (by (repeat (first | exact Mem.nil | refine Mem.consR hh (by assumption) (by simp) ?_ | refine Mem.cons hh.mem (by (repeat (first | exact find_head | apply find_tail | apply find_skip)); done) ?_ | fail)); done)
          refine d_step (fun _ => hM) ?_
          refine d_take (i := 18) hl rfl (by kernel_rfl) (by kernel_rfl) (by kernel_rfl) (by kernel_rfl) (by kernel_rfl) rfl trivial (fun _ _ _ h => h) hM (fun w hC => r_build hl rfl zero129 bld129 (by simp only [fillL, setL, List.getElem?_cons_zero, List.getElem?_cons_succ, Value.cells, List.take_zero, List.take_succ_cons, List.take_nil, List.drop_zero, List.drop_succ_cons, List.drop_nil, List.length_cons, List.length_nil, List.cons_append, List.nil_append, List.append_nil, Nat.zero_add, Nat.add_zero, Nat.reduceAdd, Nat.reduceBEq, Nat.reduceEqDiff, Nat.ble, BEq.rfl, Bool.and_true, Bool.and_self, cond_true, beq_self_eq_true]; rfl)) rfl ?_
          clear hl a; intro a hl
          refine d_one (i := 19) (by kernel_rfl) rfl ?_
          try clear hM
          refine id (w_alloc hl hh rfl trivial zero129 rfl ?_)
          clear hl hh a w; intro k13 a w hl hh
          have hM : Mem [(fb, C (fl SQ.cells bs ++ jf) 129), (k9, C [.int .i64 (pk.1 : Int), .int .i64 (pk.2 : Int)] 181)] w := (by (repeat (first | exact Mem.nil | refine Mem.consR hh (by assumption) (by simp) ?_ | refine Mem.cons hh.mem (by (repeat (first | exact find_head | apply find_tail | apply find_skip)); done) ?_ | fail)); done)
          refine d_step (fun _ => hM) ?_
          refine d_one (i := 20) (by kernel_rfl) rfl ?_
          try clear hM
          refine id (w_storeA hl hh trivial agg129 rfl rfl (by repeat (first | exact find_head | apply find_tail | apply find_skip)) (by first | rfl | (simp; done)) (by first | (simp; done) | (simp; omega)) (by first | rfl | (simp; done) | rfl) (by first | (simp only [setL, List.getElem?_cons_zero, List.getElem?_cons_succ, Value.cells, List.take_zero, List.take_succ_cons, List.take_nil, List.drop_zero, List.drop_succ_cons, List.drop_nil, List.length_cons, List.length_nil, List.cons_append, List.nil_append, List.append_nil, Nat.zero_add, Nat.add_zero, Nat.reduceAdd, Nat.reduceBEq, Nat.reduceEqDiff, Nat.ble, BEq.rfl, Bool.and_true, Bool.and_self, cond_true, beq_self_eq_true]; rfl)) ?_)
          clear hh w; intro w hh
          refine d_step (fun h => absurd h (by decide)) ?_
          refine d_done (by kernel_rfl) ?_
          try clear hM
          have hl2 := hl.add (t := 0) (hl.add (t := 1) (hl.add (t := 2) (hl.add (t := 7) (hl.add (t := 9) (hl.add (t := 13) (hl.add (t := 17) (hl.add (t := 18) (hl.add (t := 19) (hl.nil) rfl) rfl) rfl) rfl) rfl) rfl) rfl) rfl) rfl; clear hl; have hl := hl2; clear hl2
          refine then_normal ?_
          refine c_seq ?_
          refine c_draw [(X.sb, C [.string X.hs, X.hv, .slice (some ⟨X.bb, 0, none⟩) X.xs.length X.xs.length, .int .i64 (X.vs : Int), .slice (some ⟨X.ob, 0, none⟩) X.vs X.vs] 127), (X.bb, C (fl LV.c4 X.xs) 48), (k9, C [.int .i64 (pk.1 : Int), .int .i64 (pk.2 : Int)] 181)] [10] mixed hh ?_
          clear hh w; intro w hh
          have hM : Mem [(X.sb, C [.string X.hs, X.hv, .slice (some ⟨X.bb, 0, none⟩) X.xs.length X.xs.length, .int .i64 (X.vs : Int), .slice (some ⟨X.ob, 0, none⟩) X.vs X.vs] 127), (X.bb, C (fl LV.c4 X.xs) 48), (k9, C [.int .i64 (pk.1 : Int), .int .i64 (pk.2 : Int)] 181)] w := (by (repeat (first | exact Mem.nil | refine Mem.consR hh (by assumption) (by simp) ?_ | refine Mem.cons hh.mem (by (repeat (first | exact find_head | apply find_tail | apply find_skip)); done) ?_ | fail)); done)
          refine d_take (i := 0) hl rfl (by kernel_rfl) (by kernel_rfl) (by kernel_rfl) (by kernel_rfl) (by kernel_rfl) rfl trivial (fun _ _ _ h => h) hM (fun w hC => r_move hl rfl) rfl ?_
          clear hl a; intro a hl
          refine d_take (i := 1) hl rfl (by kernel_rfl) (by kernel_rfl) (by kernel_rfl) (by kernel_rfl) (by kernel_rfl) rfl trivial (fun _ _ _ h => h) hM (fun w hC => r_nilCheck hl rfl) rfl ?_
          clear hl a; intro a hl
          refine d_take (i := 2) hl rfl (by kernel_rfl) (by kernel_rfl) (by kernel_rfl) (by kernel_rfl) (by kernel_rfl) rfl trivial (fun _ _ _ h => h) hM (fun w hC => r_field hl rfl fld127_1) rfl ?_
          clear hl a; intro a hl
          refine d_take (i := 3) hl rfl (by kernel_rfl) (by kernel_rfl) (by kernel_rfl) (by kernel_rfl) (by kernel_rfl) rfl trivial (fun _ _ _ h => h) hM (fun w hC => r_loadC hl rfl one55 hC (by repeat (first | exact find_head | apply find_tail | apply find_skip)) (by rfl)) rfl ?_
          clear hl a; intro a hl
          refine d_take (i := 4) hl rfl (by kernel_rfl) (by kernel_rfl) (by kernel_rfl) (by kernel_rfl) (by kernel_rfl) rfl trivial (fun _ _ _ h => h) hM (fun w hC => r_field hl rfl fld181_1) rfl ?_
          clear hl a; intro a hl
          refine d_take (i := 5) hl rfl (by kernel_rfl) (by kernel_rfl) (by kernel_rfl) (by kernel_rfl) (by kernel_rfl) rfl trivial (fun _ _ _ h => h) hM (fun w hC => r_loadC hl rfl one3 hC (by repeat (first | exact find_head | apply find_tail | apply find_skip)) (by first | rfl)) rfl ?_
          clear hl a; intro a hl
          refine d_take (i := 6) hl rfl (by kernel_rfl) (by kernel_rfl) (by kernel_rfl) (by kernel_rfl) (by kernel_rfl) rfl trivial (fun _ _ _ h => h) hM (fun w hC => r_indexS hl rfl rfl slc55 (by omega) (by omega) (by first | (simp only [Int.reduceToNat]; rfl) | exact toNat_add1 _ | exact toNat_add2 _ _ | exact toNat_emod _ _ | exact Int.toNat_natCast _ | rfl)) rfl ?_
          clear hl a; intro a hl
          refine d_take (i := 7) hl rfl (by kernel_rfl) (by kernel_rfl) (by kernel_rfl) (by kernel_rfl) (by kernel_rfl) rfl trivial (fun _ _ _ h => h) hM (fun w hC => r_field hl rfl fld48_2) rfl ?_
          clear hl a; intro a hl
          refine d_take (i := 8) hl rfl (by kernel_rfl) (by kernel_rfl) (by kernel_rfl) (by kernel_rfl) (by kernel_rfl) rfl trivial (fun _ _ _ h => h) hM (fun w hC => r_field hl rfl fld46_1) rfl ?_
          clear hl a; intro a hl
          refine d_take (i := 9) hl rfl (by kernel_rfl) (by kernel_rfl) (by kernel_rfl) (by kernel_rfl) (by kernel_rfl) rfl trivial (fun _ _ _ h => h) hM (fun w hC => r_loadC hl rfl one42 hC (by repeat (first | exact find_head | apply find_tail | apply find_skip)) (by exact c4_args hx)) rfl ?_
          clear hl a; intro a hl
          refine d_one (i := 10) (by kernel_rfl) rfl ?_
          try clear hM
          refine id (w_call hl hh rfl trivial rfl cal57 rfl (read_keep k13 0 [.int .u64 (bitsOf .or .u64 st.pl (sh64 pk.2)), .slice np9 st.num.length nc9, .int .i64 st.nx] 129 st.num np9 nc9 jn9 hN9 st.nx x.l.a x.p x.c x.E hxo.ags (apartK hh (by repeat (first | exact keeps_nil | apply keeps_cons (by repeat (first | exact find_head | apply find_tail | apply find_skip)) (by first  | rfl) | exact keeps_self | exact keeps_left | apply keeps_app | apply keeps_mv | apply keeps_skip)) hxE) rfl rfl (fun t ht hk => by rw [hok.len]; exact hX.vb x t hxm ht hk) (by rw [hok.len]; exact hX.v6) hok.nx) (by repeat (first | exact keeps_nil | apply keeps_cons (by repeat (first | exact find_head | apply find_tail | apply find_skip)) (by first  | rfl) | exact keeps_self | exact keeps_left | apply keeps_app | apply keeps_mv | apply keeps_skip)) (mem_keep hh hxE) ?_)
          clear hl hh a w; intro vc Fc a w hR hl hh
          obtain ⟨Eo, hRo, rfl⟩ := hR
          try simp only [List.cons_append, List.nil_append, List.append_assoc, List.append_nil] at hh
          simp only [setL, Nat.zero_add, List.take_succ_cons, List.take_zero, List.drop_succ_cons, List.drop_zero, List.drop_nil, List.cons_append, List.nil_append, List.length_cons, List.length_nil, Nat.reduceAdd, List.append_nil] at hh
          refine d_step (fun h => absurd h (by decide)) ?_
          refine d_done (by kernel_rfl) ?_
          try clear hM
          have hl2 := hl.add (t := 0) (hl.add (t := 1) (hl.add (t := 2) (hl.add (t := 7) (hl.add (t := 13) (hl.add (t := 17) (hl.add (t := 18) (hl.add (t := 19) (hl.nil) rfl) rfl) rfl) rfl) rfl) rfl) rfl) rfl; clear hl; have hl := hl2; clear hl2
          refine then_normal ?_
          refine c_region ?_
          refine wl (wl_val hl rfl trivial (r_move hl rfl) ?_)
          clear hl a; intro a hl
          first | refine wl (w_loadA hl hh rfl trivial agg129 rfl (by repeat (first | exact find_head | apply find_tail | apply find_skip)) (by first | (simp only [List.getElem?_cons_zero, List.getElem?_cons_succ, Value.cells, List.take_zero, List.take_succ_cons, List.take_nil, List.drop_zero, List.drop_succ_cons, List.drop_nil, List.length_cons, List.length_nil, List.cons_append, List.nil_append, List.append_nil, Nat.zero_add, Nat.add_zero, Nat.reduceAdd, Nat.reduceBEq, Nat.reduceEqDiff, Nat.ble, BEq.rfl, Bool.and_true, Bool.and_self, cond_true, beq_self_eq_true]; rfl)) (by first | rfl | (simp; done)) ?_) | refine wl (w_loadRA hl hh rfl trivial agg129 rfl hmp (by simp) hq9 rfl ?_)
          clear hl a; intro a hl
          refine wl (w_buildSlice hl hh rfl trivial app132 zero129 rfl rfl rfl rfl rfl (by simp only [fillL, arrPl, List.range_succ, List.range_zero, List.map_cons, List.map_nil, List.map_append, List.nil_append, List.replicate_succ, List.replicate_zero, List.flatten_cons, List.flatten_nil, Nat.zero_mul, Nat.mul_one, Nat.one_mul, Nat.reduceMul, setL, List.getElem?_cons_zero, List.getElem?_cons_succ, Value.cells, List.take_zero, List.take_succ_cons, List.take_nil, List.drop_zero, List.drop_succ_cons, List.drop_nil, List.length_cons, List.length_nil, List.cons_append, List.nil_append, List.append_nil, Nat.zero_add, Nat.add_zero, Nat.reduceAdd, Nat.reduceBEq, Nat.reduceEqDiff, Nat.ble, BEq.rfl, Bool.and_true, Bool.and_self, cond_true, beq_self_eq_true]; rfl) ?_)
          clear hl hh a w; intro k91 a w hl hh
          refine wl (w_append (news := [.int .u64 (bitsOf .or .u64 st.pl (sh64 pk.2)), .slice np9 st.num.length nc9, .int .i64 (rdTs (st.num, st.nx) x.l.a).1.2]) hl hh rfl trivial app132 rfl rfl rfl hI.row (by repeat (first | exact keeps_nil | apply keeps_cons (by repeat (first | exact find_head | apply find_tail | apply find_skip)) (by first  | rfl) | exact keeps_self | exact keeps_left | apply keeps_app | apply keeps_mv | apply keeps_skip)) (hh.mem _ _ (Find.mem (by repeat (first | exact find_head | apply find_tail | apply find_skip)))) rfl rfl rfl (by omega) (by omega) (by omega) (by decide) ?_)
          clear hl hh a w; intro rv2 E2 a w hR2 hl hh
          have hh3 := hh.comm; clear hh; have hh := hh3; clear hh3
          try simp only [List.cons_append, List.nil_append, List.append_assoc, List.append_nil] at hh
          refine wl (wl_val hl rfl trivial (r_assign hl rfl) ?_)
          clear hl a; intro a hl
          refine w_nil ?_
          have hl2 := hl.add (t := 0) (hl.add (t := 1) (hl.add (t := 2) (hl.add (t := 7) (hl.add (t := 17) (hl.add (t := 18) (hl.add (t := 19) (hl.nil) rfl) rfl) rfl) rfl) rfl) rfl) rfl; clear hl; have hl := hl2; clear hl2
          obtain ⟨p8, c8, hv8⟩ := row_val hR2
          subst hv8
          generalize E2 = E8 at hh hR2
          have hrow8 : Row (.slice p8 (z.nbs ++ [(⟨bitsOf .or .u64 st.pl (sh64 pk.2), (rdTs (st.num, st.nx) x.l.a).1.1, (rdTs (st.num, st.nx) x.l.a).1.2, np9, nc9, jn9⟩ : SQ)]).length c8) (z.nbs ++ [(⟨bitsOf .or .u64 st.pl (sh64 pk.2), (rdTs (st.num, st.nx) x.l.a).1.1, (rdTs (st.num, st.nx) x.l.a).1.2, np9, nc9, jn9⟩ : SQ)]).length (fl SQ.cells (z.nbs ++ [⟨bitsOf .or .u64 st.pl (sh64 pk.2), (rdTs (st.num, st.nx) x.l.a).1.1, (rdTs (st.num, st.nx) x.l.a).1.2, np9, nc9, jn9⟩])) 3 129 E8 := row_snoc (f := SQ.cells) (by show Row _ _ (_ ++ [.int .u64 _, .slice np9 (rdTs (st.num, st.nx) x.l.a).1.1.length nc9, .int .i64 _]) 3 129 E8; rw [(rdTs_nl (st.num, st.nx) x.l.a).1]; exact hR2)
          have hh9 := has_sw hh (A := List.flatMap SQ.blk z.nbs ++ nbE np9 jn9 (rdTs (st.num, st.nx) x.l.a).1.1) (by repeat (first | exact keeps_nil | apply keeps_cons (by repeat (first | exact find_head | apply find_tail | apply find_skip)) (by first  | rfl) | exact keeps_self | exact keeps_left | apply keeps_app | apply keeps_mv | apply keeps_skip)) (A' := List.flatMap SQ.blk (z.nbs ++ [(⟨bitsOf .or .u64 st.pl (sh64 pk.2), (rdTs (st.num, st.nx) x.l.a).1.1, (rdTs (st.num, st.nx) x.l.a).1.2, np9, nc9, jn9⟩ : SQ)])) (by rw [List.flatMap_append]; simp [SQ.blk])
          clear hh; have hh := hh9; clear hh9
          try simp only [List.append_assoc, List.cons_append, List.nil_append] at hh
          refine blk_normal ?_
          refine then_normal ?_
          refine c_region ?_
          first | refine wl (wl_val hl rfl trivial (r_add hl rfl rfl (by simp only [Fits]; omega)) ?_) | refine wl (wl_val hl rfl trivial (r_addW hl rfl rfl) ?_)
          clear hl a; intro a hl
          refine wl (wl_val hl rfl trivial (r_move hl rfl) ?_)
          clear hl a; intro a hl
          refine w_nil ?_
          have hl2 := hl.add (t := 0) (hl.add (t := 1) (hl.add (t := 2) (hl.add (t := 7) (hl.add (t := 17) (hl.add (t := 18) (hl.add (t := 19) (hl.nil) rfl) rfl) rfl) rfl) rfl) rfl) rfl; clear hl; have hl := hl2; clear hl2
          refine then_normal ?_
          refine ⟨⟨z.k + 1, z.nbs ++ [⟨bitsOf .or .u64 st.pl (sh64 pk.2), (rdTs (st.num, st.nx) x.l.a).1.1, (rdTs (st.num, st.nx) x.l.a).1.2, np9, nc9, jn9⟩], p8, c8, E8⟩, (by simp only; omega), ⟨by simp only; omega, by show List.map SQ.core (z.nbs ++ [_]) = _; rw [List.map_append, hI.co, follow_no hpk hcore (X.at_ hx) htw9]; rfl, by show (z.nbs ++ [_]).length ≤ z.k + 1; rw [List.length_append, List.length_singleton]; omega, hrow8, fun b hb => by rcases List.mem_append.1 hb with h | h; exact hI.ok b h; (rw [List.mem_singleton] at h; subst h; exact new_ok hok hxo (hR0 st hstm) hRb hN9 _)⟩, hl.addE (t := 19) (hl.addE (t := 7) (hl.addE (t := 0) (hl.addE (t := 1) (hl.addE (t := 2) (hl.addE (t := 17) (hl.addE (t := 18) (hl.nil) rfl (by first | rfl | exact congrArg (Value.int .i64) (show (z.k : Int) + 1 = ((z.k + 1 : Nat) : Int) by omega) | (rw [hqp]) | (simp [List.length_append]; done))) rfl (by first | rfl | exact congrArg (Value.int .i64) (show (z.k : Int) + 1 = ((z.k + 1 : Nat) : Int) by omega) | (rw [hqp]) | (simp [List.length_append]; done))) rfl (by first | rfl | exact congrArg (Value.int .i64) (show (z.k : Int) + 1 = ((z.k + 1 : Nat) : Int) by omega) | (rw [hqp]) | (simp [List.length_append]; done))) rfl (by first | rfl | exact congrArg (Value.int .i64) (show (z.k : Int) + 1 = ((z.k + 1 : Nat) : Int) by omega) | (rw [hqp]) | (simp [List.length_append]; done))) rfl (by first | rfl | exact congrArg (Value.int .i64) (show (z.k : Int) + 1 = ((z.k + 1 : Nat) : Int) by omega) | (rw [hqp]) | (simp [List.length_append]; done))) rfl (by first | rfl | exact congrArg (Value.int .i64) (show (z.k : Int) + 1 = ((z.k + 1 : Nat) : Int) by omega) | (rw [hqp]) | (simp [List.length_append]; done))) rfl (by first | rfl | exact congrArg (Value.int .i64) (show (z.k : Int) + 1 = ((z.k + 1 : Nat) : Int) by omega) | (rw [hqp]) | (simp [List.length_append]; done)), hh.keep (by repeat (first | exact keeps_nil | apply keeps_cons (by repeat (first | exact find_head | apply find_tail | apply find_skip)) (by first  | rfl) | exact keeps_self | exact keeps_left | apply keeps_app | apply keeps_mv | apply keeps_skip))⟩
        ·
          try clear hM
          refine id (w_alloc hl hh rfl trivial zero129 rfl ?_)
          clear hl hh a w; intro k13 a w hl hh
          have hM : Mem [(fb, C (fl SQ.cells bs ++ jf) 129), (k9, C [.int .i64 (pk.1 : Int), .int .i64 (pk.2 : Int)] 181)] w := (by (repeat (first | exact Mem.nil | refine Mem.consR hh (by assumption) (by simp) ?_ | refine Mem.cons hh.mem (by (repeat (first | exact find_head | apply find_tail | apply find_skip)); done) ?_ | fail)); done)
          refine d_step (fun _ => hM) ?_
          refine d_one (i := 13) (by kernel_rfl) rfl ?_
          try clear hM
          refine id (w_appendCopy hl hh rfl trivial app58 rfl rfl rfl hok.n.row (fun b o m => heap_keep hh (hpre _ _ (hS.nb _ m))) (fl_one1 iI_one _) (by have := hok.len; have := hX.v6; omega) (by have := hok.len; have := hX.v6; omega) (by decide) ?_)
          clear hl hh a w; intro rv3 E3 a w hR3 hl hh
          have hh3 := hh.comm; clear hh; have hh := hh3; clear hh3
          try simp only [List.cons_append, List.nil_append, List.append_assoc, List.append_nil] at hh
          obtain ⟨np9, nc9, hv9⟩ := row_val hR3
          subst hv9
          obtain ⟨jn9, hE9, hN9⟩ := row_nok hR3
          subst hE9
          have hM : Mem [(fb, C (fl SQ.cells bs ++ jf) 129), (k9, C [.int .i64 (pk.1 : Int), .int .i64 (pk.2 : Int)] 181)] w := (by (repeat (first | exact Mem.nil | refine Mem.consR hh (by assumption) (by simp) ?_ | refine Mem.cons hh.mem (by (repeat (first | exact find_head | apply find_tail | apply find_skip)); done) ?_ | fail)); done)
          refine d_step (fun _ => hM) ?_
          refine d_take (i := 18) hl rfl (by kernel_rfl) (by kernel_rfl) (by kernel_rfl) (by kernel_rfl) (by kernel_rfl) rfl trivial (fun _ _ _ h => h) hM (fun w hC => r_build hl rfl zero129 bld129 (by simp only [fillL, setL, List.getElem?_cons_zero, List.getElem?_cons_succ, Value.cells, List.take_zero, List.take_succ_cons, List.take_nil, List.drop_zero, List.drop_succ_cons, List.drop_nil, List.length_cons, List.length_nil, List.cons_append, List.nil_append, List.append_nil, Nat.zero_add, Nat.add_zero, Nat.reduceAdd, Nat.reduceBEq, Nat.reduceEqDiff, Nat.ble, BEq.rfl, Bool.and_true, Bool.and_self, cond_true, beq_self_eq_true]; rfl)) rfl ?_
          clear hl a; intro a hl
          refine d_one (i := 20) (by kernel_rfl) rfl ?_
          try clear hM
          refine id (w_storeA hl hh trivial agg129 rfl rfl (by repeat (first | exact find_head | apply find_tail | apply find_skip)) (by first | rfl | (simp; done)) (by first | (simp; done) | (simp; omega)) (by first | rfl | (simp; done) | rfl) (by first | (simp only [setL, List.getElem?_cons_zero, List.getElem?_cons_succ, Value.cells, List.take_zero, List.take_succ_cons, List.take_nil, List.drop_zero, List.drop_succ_cons, List.drop_nil, List.length_cons, List.length_nil, List.cons_append, List.nil_append, List.append_nil, Nat.zero_add, Nat.add_zero, Nat.reduceAdd, Nat.reduceBEq, Nat.reduceEqDiff, Nat.ble, BEq.rfl, Bool.and_true, Bool.and_self, cond_true, beq_self_eq_true]; rfl)) ?_)
          clear hh w; intro w hh
          refine d_step (fun h => absurd h (by decide)) ?_
          refine d_done (by kernel_rfl) ?_
          try clear hM
          have hl2 := hl.add (t := 0) (hl.add (t := 1) (hl.add (t := 2) (hl.add (t := 7) (hl.add (t := 9) (hl.add (t := 13) (hl.add (t := 17) (hl.add (t := 18) (hl.add (t := 19) (hl.nil) rfl) rfl) rfl) rfl) rfl) rfl) rfl) rfl) rfl; clear hl; have hl := hl2; clear hl2
          refine then_normal ?_
          refine c_seq ?_
          refine c_draw [(X.sb, C [.string X.hs, X.hv, .slice (some ⟨X.bb, 0, none⟩) X.xs.length X.xs.length, .int .i64 (X.vs : Int), .slice (some ⟨X.ob, 0, none⟩) X.vs X.vs] 127), (X.bb, C (fl LV.c4 X.xs) 48), (k9, C [.int .i64 (pk.1 : Int), .int .i64 (pk.2 : Int)] 181)] [10] mixed hh ?_
          clear hh w; intro w hh
          have hM : Mem [(X.sb, C [.string X.hs, X.hv, .slice (some ⟨X.bb, 0, none⟩) X.xs.length X.xs.length, .int .i64 (X.vs : Int), .slice (some ⟨X.ob, 0, none⟩) X.vs X.vs] 127), (X.bb, C (fl LV.c4 X.xs) 48), (k9, C [.int .i64 (pk.1 : Int), .int .i64 (pk.2 : Int)] 181)] w := (by (repeat (first | exact Mem.nil | refine Mem.consR hh (by assumption) (by simp) ?_ | refine Mem.cons hh.mem (by (repeat (first | exact find_head | apply find_tail | apply find_skip)); done) ?_ | fail)); done)
          refine d_take (i := 0) hl rfl (by kernel_rfl) (by kernel_rfl) (by kernel_rfl) (by kernel_rfl) (by kernel_rfl) rfl trivial (fun _ _ _ h => h) hM (fun w hC => r_move hl rfl) rfl ?_
          clear hl a; intro a hl
          refine d_take (i := 1) hl rfl (by kernel_rfl) (by kernel_rfl) (by kernel_rfl) (by kernel_rfl) (by kernel_rfl) rfl trivial (fun _ _ _ h => h) hM (fun w hC => r_nilCheck hl rfl) rfl ?_
          clear hl a; intro a hl
          refine d_take (i := 2) hl rfl (by kernel_rfl) (by kernel_rfl) (by kernel_rfl) (by kernel_rfl) (by kernel_rfl) rfl trivial (fun _ _ _ h => h) hM (fun w hC => r_field hl rfl fld127_1) rfl ?_
          clear hl a; intro a hl
          refine d_take (i := 3) hl rfl (by kernel_rfl) (by kernel_rfl) (by kernel_rfl) (by kernel_rfl) (by kernel_rfl) rfl trivial (fun _ _ _ h => h) hM (fun w hC => r_loadC hl rfl one55 hC (by repeat (first | exact find_head | apply find_tail | apply find_skip)) (by rfl)) rfl ?_
          clear hl a; intro a hl
          refine d_take (i := 4) hl rfl (by kernel_rfl) (by kernel_rfl) (by kernel_rfl) (by kernel_rfl) (by kernel_rfl) rfl trivial (fun _ _ _ h => h) hM (fun w hC => r_field hl rfl fld181_1) rfl ?_
          clear hl a; intro a hl
          refine d_take (i := 5) hl rfl (by kernel_rfl) (by kernel_rfl) (by kernel_rfl) (by kernel_rfl) (by kernel_rfl) rfl trivial (fun _ _ _ h => h) hM (fun w hC => r_loadC hl rfl one3 hC (by repeat (first | exact find_head | apply find_tail | apply find_skip)) (by first | rfl)) rfl ?_
          clear hl a; intro a hl
          refine d_take (i := 6) hl rfl (by kernel_rfl) (by kernel_rfl) (by kernel_rfl) (by kernel_rfl) (by kernel_rfl) rfl trivial (fun _ _ _ h => h) hM (fun w hC => r_indexS hl rfl rfl slc55 (by omega) (by omega) (by first | (simp only [Int.reduceToNat]; rfl) | exact toNat_add1 _ | exact toNat_add2 _ _ | exact toNat_emod _ _ | exact Int.toNat_natCast _ | rfl)) rfl ?_
          clear hl a; intro a hl
          refine d_take (i := 7) hl rfl (by kernel_rfl) (by kernel_rfl) (by kernel_rfl) (by kernel_rfl) (by kernel_rfl) rfl trivial (fun _ _ _ h => h) hM (fun w hC => r_field hl rfl fld48_2) rfl ?_
          clear hl a; intro a hl
          refine d_take (i := 8) hl rfl (by kernel_rfl) (by kernel_rfl) (by kernel_rfl) (by kernel_rfl) (by kernel_rfl) rfl trivial (fun _ _ _ h => h) hM (fun w hC => r_field hl rfl fld46_1) rfl ?_
          clear hl a; intro a hl
          refine d_take (i := 9) hl rfl (by kernel_rfl) (by kernel_rfl) (by kernel_rfl) (by kernel_rfl) (by kernel_rfl) rfl trivial (fun _ _ _ h => h) hM (fun w hC => r_loadC hl rfl one42 hC (by repeat (first | exact find_head | apply find_tail | apply find_skip)) (by exact c4_args hx)) rfl ?_
          clear hl a; intro a hl
          refine d_one (i := 10) (by kernel_rfl) rfl ?_
          try clear hM
          refine id (w_call hl hh rfl trivial rfl cal57 rfl (read_keep k13 0 [.int .u64 (bitsOf .or .u64 st.pl (sh64 pk.2)), .slice np9 st.num.length nc9, .int .i64 st.nx] 129 st.num np9 nc9 jn9 hN9 st.nx x.l.a x.p x.c x.E hxo.ags (apartK hh (by repeat (first | exact keeps_nil | apply keeps_cons (by repeat (first | exact find_head | apply find_tail | apply find_skip)) (by first  | rfl) | exact keeps_self | exact keeps_left | apply keeps_app | apply keeps_mv | apply keeps_skip)) hxE) rfl rfl (fun t ht hk => by rw [hok.len]; exact hX.vb x t hxm ht hk) (by rw [hok.len]; exact hX.v6) hok.nx) (by repeat (first | exact keeps_nil | apply keeps_cons (by repeat (first | exact find_head | apply find_tail | apply find_skip)) (by first  | rfl) | exact keeps_self | exact keeps_left | apply keeps_app | apply keeps_mv | apply keeps_skip)) (mem_keep hh hxE) ?_)
          clear hl hh a w; intro vc Fc a w hR hl hh
          obtain ⟨Eo, hRo, rfl⟩ := hR
          try simp only [List.cons_append, List.nil_append, List.append_assoc, List.append_nil] at hh
          simp only [setL, Nat.zero_add, List.take_succ_cons, List.take_zero, List.drop_succ_cons, List.drop_zero, List.drop_nil, List.cons_append, List.nil_append, List.length_cons, List.length_nil, Nat.reduceAdd, List.append_nil] at hh
          refine d_step (fun h => absurd h (by decide)) ?_
          refine d_done (by kernel_rfl) ?_
          try clear hM
          have hl2 := hl.add (t := 0) (hl.add (t := 1) (hl.add (t := 2) (hl.add (t := 7) (hl.add (t := 13) (hl.add (t := 17) (hl.add (t := 18) (hl.add (t := 19) (hl.nil) rfl) rfl) rfl) rfl) rfl) rfl) rfl) rfl; clear hl; have hl := hl2; clear hl2
          refine then_normal ?_
          refine c_region ?_
          refine wl (wl_val hl rfl trivial (r_move hl rfl) ?_)
          clear hl a; intro a hl
          first | refine wl (w_loadA hl hh rfl trivial agg129 rfl (by repeat (first | exact find_head | apply find_tail | apply find_skip)) (by first | (simp only [List.getElem?_cons_zero, List.getElem?_cons_succ, Value.cells, List.take_zero, List.take_succ_cons, List.take_nil, List.drop_zero, List.drop_succ_cons, List.drop_nil, List.length_cons, List.length_nil, List.cons_append, List.nil_append, List.append_nil, Nat.zero_add, Nat.add_zero, Nat.reduceAdd, Nat.reduceBEq, Nat.reduceEqDiff, Nat.ble, BEq.rfl, Bool.and_true, Bool.and_self, cond_true, beq_self_eq_true]; rfl)) (by first | rfl | (simp; done)) ?_) | refine wl (w_loadRA hl hh rfl trivial agg129 rfl hmp (by simp) hq9 rfl ?_)
          clear hl a; intro a hl
          refine wl (w_buildSlice hl hh rfl trivial app132 zero129 rfl rfl rfl rfl rfl (by simp only [fillL, arrPl, List.range_succ, List.range_zero, List.map_cons, List.map_nil, List.map_append, List.nil_append, List.replicate_succ, List.replicate_zero, List.flatten_cons, List.flatten_nil, Nat.zero_mul, Nat.mul_one, Nat.one_mul, Nat.reduceMul, setL, List.getElem?_cons_zero, List.getElem?_cons_succ, Value.cells, List.take_zero, List.take_succ_cons, List.take_nil, List.drop_zero, List.drop_succ_cons, List.drop_nil, List.length_cons, List.length_nil, List.cons_append, List.nil_append, List.append_nil, Nat.zero_add, Nat.add_zero, Nat.reduceAdd, Nat.reduceBEq, Nat.reduceEqDiff, Nat.ble, BEq.rfl, Bool.and_true, Bool.and_self, cond_true, beq_self_eq_true]; rfl) ?_)
          clear hl hh a w; intro k91 a w hl hh
          refine wl (w_append (news := [.int .u64 (bitsOf .or .u64 st.pl (sh64 pk.2)), .slice np9 st.num.length nc9, .int .i64 (rdTs (st.num, st.nx) x.l.a).1.2]) hl hh rfl trivial app132 rfl rfl rfl hI.row (by repeat (first | exact keeps_nil | apply keeps_cons (by repeat (first | exact find_head | apply find_tail | apply find_skip)) (by first  | rfl) | exact keeps_self | exact keeps_left | apply keeps_app | apply keeps_mv | apply keeps_skip)) (hh.mem _ _ (Find.mem (by repeat (first | exact find_head | apply find_tail | apply find_skip)))) rfl rfl rfl (by omega) (by omega) (by omega) (by decide) ?_)
          clear hl hh a w; intro rv2 E2 a w hR2 hl hh
          have hh3 := hh.comm; clear hh; have hh := hh3; clear hh3
          try simp only [List.cons_append, List.nil_append, List.append_assoc, List.append_nil] at hh
          refine wl (wl_val hl rfl trivial (r_assign hl rfl) ?_)
          clear hl a; intro a hl
          refine w_nil ?_
          have hl2 := hl.add (t := 0) (hl.add (t := 1) (hl.add (t := 2) (hl.add (t := 7) (hl.add (t := 17) (hl.add (t := 18) (hl.add (t := 19) (hl.nil) rfl) rfl) rfl) rfl) rfl) rfl) rfl; clear hl; have hl := hl2; clear hl2
          obtain ⟨p8, c8, hv8⟩ := row_val hR2
          subst hv8
          generalize E2 = E8 at hh hR2
          have hrow8 : Row (.slice p8 (z.nbs ++ [(⟨bitsOf .or .u64 st.pl (sh64 pk.2), (rdTs (st.num, st.nx) x.l.a).1.1, (rdTs (st.num, st.nx) x.l.a).1.2, np9, nc9, jn9⟩ : SQ)]).length c8) (z.nbs ++ [(⟨bitsOf .or .u64 st.pl (sh64 pk.2), (rdTs (st.num, st.nx) x.l.a).1.1, (rdTs (st.num, st.nx) x.l.a).1.2, np9, nc9, jn9⟩ : SQ)]).length (fl SQ.cells (z.nbs ++ [⟨bitsOf .or .u64 st.pl (sh64 pk.2), (rdTs (st.num, st.nx) x.l.a).1.1, (rdTs (st.num, st.nx) x.l.a).1.2, np9, nc9, jn9⟩])) 3 129 E8 := row_snoc (f := SQ.cells) (by show Row _ _ (_ ++ [.int .u64 _, .slice np9 (rdTs (st.num, st.nx) x.l.a).1.1.length nc9, .int .i64 _]) 3 129 E8; rw [(rdTs_nl (st.num, st.nx) x.l.a).1]; exact hR2)
          have hh9 := has_sw hh (A := List.flatMap SQ.blk z.nbs ++ nbE np9 jn9 (rdTs (st.num, st.nx) x.l.a).1.1) (by repeat (first | exact keeps_nil | apply keeps_cons (by repeat (first | exact find_head | apply find_tail | apply find_skip)) (by first  | rfl) | exact keeps_self | exact keeps_left | apply keeps_app | apply keeps_mv | apply keeps_skip)) (A' := List.flatMap SQ.blk (z.nbs ++ [(⟨bitsOf .or .u64 st.pl (sh64 pk.2), (rdTs (st.num, st.nx) x.l.a).1.1, (rdTs (st.num, st.nx) x.l.a).1.2, np9, nc9, jn9⟩ : SQ)])) (by rw [List.flatMap_append]; simp [SQ.blk])
          clear hh; have hh := hh9; clear hh9
          try simp only [List.append_assoc, List.cons_append, List.nil_append] at hh
          refine blk_normal ?_
          refine then_normal ?_
          refine c_region ?_
          first | refine wl (wl_val hl rfl trivial (r_add hl rfl rfl (by simp only [Fits]; omega)) ?_) | refine wl (wl_val hl rfl trivial (r_addW hl rfl rfl) ?_)
          clear hl a; intro a hl
          refine wl (wl_val hl rfl trivial (r_move hl rfl) ?_)
          clear hl a; intro a hl
          refine w_nil ?_
          have hl2 := hl.add (t := 0) (hl.add (t := 1) (hl.add (t := 2) (hl.add (t := 7) (hl.add (t := 17) (hl.add (t := 18) (hl.add (t := 19) (hl.nil) rfl) rfl) rfl) rfl) rfl) rfl) rfl; clear hl; have hl := hl2; clear hl2
          refine then_normal ?_
          refine ⟨⟨z.k + 1, z.nbs ++ [⟨bitsOf .or .u64 st.pl (sh64 pk.2), (rdTs (st.num, st.nx) x.l.a).1.1, (rdTs (st.num, st.nx) x.l.a).1.2, np9, nc9, jn9⟩], p8, c8, E8⟩, (by simp only; omega), ⟨by simp only; omega, by show List.map SQ.core (z.nbs ++ [_]) = _; rw [List.map_append, hI.co, follow_no hpk hcore (X.at_ hx) htw9]; rfl, by show (z.nbs ++ [_]).length ≤ z.k + 1; rw [List.length_append, List.length_singleton]; omega, hrow8, fun b hb => by rcases List.mem_append.1 hb with h | h; exact hI.ok b h; (rw [List.mem_singleton] at h; subst h; exact new_ok hok hxo (hR0 st hstm) hRb hN9 _)⟩, hl.addE (t := 19) (hl.addE (t := 7) (hl.addE (t := 0) (hl.addE (t := 1) (hl.addE (t := 2) (hl.addE (t := 17) (hl.addE (t := 18) (hl.nil) rfl (by first | rfl | exact congrArg (Value.int .i64) (show (z.k : Int) + 1 = ((z.k + 1 : Nat) : Int) by omega) | (rw [hqp]) | (simp [List.length_append]; done))) rfl (by first | rfl | exact congrArg (Value.int .i64) (show (z.k : Int) + 1 = ((z.k + 1 : Nat) : Int) by omega) | (rw [hqp]) | (simp [List.length_append]; done))) rfl (by first | rfl | exact congrArg (Value.int .i64) (show (z.k : Int) + 1 = ((z.k + 1 : Nat) : Int) by omega) | (rw [hqp]) | (simp [List.length_append]; done))) rfl (by first | rfl | exact congrArg (Value.int .i64) (show (z.k : Int) + 1 = ((z.k + 1 : Nat) : Int) by omega) | (rw [hqp]) | (simp [List.length_append]; done))) rfl (by first | rfl | exact congrArg (Value.int .i64) (show (z.k : Int) + 1 = ((z.k + 1 : Nat) : Int) by omega) | (rw [hqp]) | (simp [List.length_append]; done))) rfl (by first | rfl | exact congrArg (Value.int .i64) (show (z.k : Int) + 1 = ((z.k + 1 : Nat) : Int) by omega) | (rw [hqp]) | (simp [List.length_append]; done))) rfl (by first | rfl | exact congrArg (Value.int .i64) (show (z.k : Int) + 1 = ((z.k + 1 : Nat) : Int) by omega) | (rw [hqp]) | (simp [List.length_append]; done)), hh.keep (by repeat (first | exact keeps_nil | apply keeps_cons (by repeat (first | exact find_head | apply find_tail | apply find_skip)) (by first  | rfl) | exact keeps_self | exact keeps_left | apply keeps_app | apply keeps_mv | apply keeps_skip))⟩
  · intro hc0
    try simp only [decide_eq_true_eq, decide_eq_false_iff_not, Bool.not_eq_true', Bool.not_eq_false', Bool.not_eq_true, Bool.not_eq_false, Bool.and_eq_true, Bool.or_eq_true, Bool.and_eq_false_iff, Bool.or_eq_false_iff, Bool.not_not, ne_eq, Int.not_lt, Int.not_le, Decidable.not_not, beq_iff_eq, bne_iff_ne] at hc0
    have hke : z.k = picks.length := by omega
    refine wp_exit ?_
    refine then_exit ?_
    refine then_exit ?_
    refine blk_exit ?_
    refine then_normal ?_
    refine c_seq ?_
    refine c_region ?_
    refine wl (wl_val hl rfl trivial (r_move hl rfl) ?_)
    clear hl a; intro a hl
    refine wl (wl_val hl rfl trivial (r_assign hl rfl) ?_)
    clear hl a; intro a hl
    refine w_nil ?_
    have hl2 := hl.add (t := 6) (hl.nil) rfl; clear hl; have hl := hl2; clear hl2
    refine then_normal ?_
    refine wp_ret ?_
    refine f_ret1 (F' := z.E ++ List.flatMap SQ.blk z.nbs) hl hh rfl rfl (by repeat (first | exact keeps_nil | apply keeps_cons (by repeat (first | exact find_head | apply find_tail | apply find_skip)) (by first  | rfl) | exact keeps_self | exact keeps_left | apply keeps_app | apply keeps_mv | apply keeps_skip)) ?_
    exact ⟨z.nbs, z.p, z.c, z.E, (by rw [← hke]; exact hI.co), (by omega), rfl, hI.row, hI.ok, rfl⟩
end Go.Proofs.Qxb6500915aGreatDoor

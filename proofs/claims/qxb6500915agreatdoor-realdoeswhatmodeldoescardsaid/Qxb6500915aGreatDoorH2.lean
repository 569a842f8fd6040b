import Derived.Test.Qxb6500915aGreatDoorH1
import Derived.Test.Qxb6500915aGreatDoorC3
namespace Go.Proofs.Qxb6500915aGreatDoor
open Go.Eng
set_option linter.unusedVariables false
set_option linter.unusedSimpArgs false
theorem fld129_0 : fieldOk Tryz.prog 129 0 0 = true := by kernel_rfl
theorem fld127_1 : fieldOk Tryz.prog 127 1 2 = true := by kernel_rfl
theorem fld127_3 : fieldOk Tryz.prog 127 3 4 = true := by kernel_rfl
theorem one125 : oneOk Tryz.prog 125 = true := by kernel_rfl
theorem slc125 : slcOk Tryz.prog 125 1 = true := by kernel_rfl
theorem cal115 : callable Tryz.prog 115 = true := by kernel_rfl
/-! ## the search: blocks -/
theorem spK_borrow {P : Program} {f : FuncId} {args : Array Value} {Pre : World → Prop} {Sc : List (Nat × Obj)} {R R' : Value → List (Nat × Obj) → Prop} (h : SpK P f args Pre Sc R) (hr : ∀ v F', R v F' → ∃ F1, F'.Perm (F1 ++ Sc) ∧ R' v F1) :
    SpK P f args (fun w => Pre w ∧ Mem Sc w ∧ (Sc.map Prod.fst).Nodup) [] R' := by
  intro w hp _ _
  refine (h w hp.1 hp.2.1 hp.2.2).mono fun e w' hq => ?_
  cases e with
  | returned v =>
    obtain ⟨F', hR, hh0⟩ := hq
    obtain ⟨F1, hpm, hR'⟩ := hr v F' hR
    have hh := hh0.perm hpm
    have hnd := hh.nodup
    rw [List.map_append, List.nodup_append] at hnd
    refine ⟨F1, hR', ⟨⟨hh.frm.os, hh.frm.tape, hh.frm.output, hh.frm.size, fun b hb _ => ?_⟩, fun b o m => hh.mem b o (List.mem_append_left _ m), hnd.1, fun b o m => ?_⟩⟩
    · by_cases hm : b ∈ Sc.map Prod.fst
      · obtain ⟨⟨b', o⟩, hbo, rfl⟩ := List.mem_map.1 hm
        rw [hh.mem _ _ (List.mem_append_right _ hbo), hp.2.1 _ _ hbo]
      · exact hh.frm.block b hb hm
    · rcases hh.own b o (List.mem_append_left _ m) with h1 | h1
      · exact absurd rfl (hnd.2.2 b (List.mem_map.2 ⟨_, m, rfl⟩) b h1)
      · exact .inr h1
  | _ => exact hq.elim
def uI (x : Int) : List Value := [.int .u64 x]
theorem uI_len (x : Int) : (uI x).length = 1 := rfl
theorem uI_at {l : List Int} {i : Nat} (h : i < l.length) : (fl uI l)[0 + i * 1]? = some (.int .u64 (fnI l i)) := by
  have := fl_cell1 (f := uI) (g := .int .u64) (fun _ => rfl) (fnI_get h) []
  rw [List.append_nil] at this; exact this
structure SX where
  sb : Nat
  hs : ByteArray
  hv : Value
  xs : List LV
  bb : Nat
  vs : Nat
  oc : List Int
  ob : Nat
structure SIn (X : SX) (Z : List (Nat × Obj)) : Prop where
  s : (X.sb, C [.string X.hs, X.hv, .slice (some ⟨X.bb, 0, none⟩) X.xs.length X.xs.length, .int .i64 (X.vs : Int), .slice (some ⟨X.ob, 0, none⟩) X.vs X.vs] 127) ∈ Z
  b : (X.bb, C (fl LV.c4 X.xs) 48) ∈ Z
  o : (X.ob, C (fl uI X.oc) 49) ∈ Z
  ok : ∀ x, x ∈ X.xs → x.ok
  e : ∀ x z, x ∈ X.xs → z ∈ x.E → z ∈ Z
  ol : X.oc.length = X.vs
  vb : ∀ x t, x ∈ X.xs → t ∈ x.l.a → t.k = 0 → 0 ≤ t.v ∧ t.v < X.vs
  n64 : X.xs.length ≤ 64
  v6 : X.vs ≤ 1000000
theorem SIn.mono {X : SX} {Z Z' : List (Nat × Obj)} (h : SIn X Z) (hz : ∀ x, x ∈ Z → x ∈ Z') : SIn X Z' := ⟨hz _ h.s, hz _ h.b, hz _ h.o, h.ok, fun x z h1 h2 => hz _ (h.e x z h1 h2), h.ol, h.vb, h.n64, h.v6⟩
/-- a state of the search -/
structure SQ where
  pl : Int
  num : List Int
  nx : Int
  np : Option Addr
  nc : Nat
  jn : List Value
def SQ.cells (s : SQ) : List Value := [.int .u64 s.pl, .slice s.np s.num.length s.nc, .int .i64 s.nx]
theorem sb_len (s : SQ) : s.cells.length = 3 := rfl
theorem sb_one (s : SQ) : s.cells.all (·.oneCell') = true := rfl
structure SQ.ok (s : SQ) (vs : Nat) : Prop where
  len : s.num.length = vs
  n : NOk s.np s.nc s.jn s.num.length
  nx : 0 ≤ s.nx ∧ s.nx ≤ 1000000000
  lt : ∀ u, -1 ≤ fnI s.num u ∧ fnI s.num u < s.nx
structure StA (Z : List (Nat × Obj)) (s : SQ) (fb so : Nat) (fc : List Value) : Prop where
  f : (fb, C fc 129) ∈ Z
  nb : ∀ z, z ∈ nbE s.np s.jn s.num → z ∈ Z
  c : (fc.drop so).take 3 = s.cells
theorem StA.at_ {Z : List (Nat × Obj)} {s : SQ} {fb so : Nat} {fc : List Value} (h : StA Z s fb so fc) : fc[so]? = some (.int .u64 s.pl) ∧ fc[so + 1]? = some (.slice s.np s.num.length s.nc) ∧ fc[so + 2]? = some (.int .i64 s.nx) :=
  ⟨cellz (j := 0) h.c rfl rfl, cellz (j := 1) h.c rfl rfl, cellz (j := 2) h.c rfl rfl⟩
theorem StA.mono {Z Z' : List (Nat × Obj)} {s : SQ} {fb so : Nat} {fc : List Value} (h : StA Z s fb so fc) (hz : ∀ x, x ∈ Z → x ∈ Z') : StA Z' s fb so fc := ⟨hz _ h.f, fun z hm => hz _ (h.nb z hm), h.c⟩
theorem blk_ne {Z : List (Nat × Obj)} {w : World} (hm : Mem Z w) {b1 b2 : Nat} {l1 l2 : List Value} {t1 t2 : TypeId} (h1 : (b1, C l1 t1) ∈ Z) (h2 : (b2, C l2 t2) ∈ Z) (ht : t1 ≠ t2) : b1 ≠ b2 := by
  intro e
  subst e
  have h3 := (hm _ _ h1).symm.trans (hm _ _ h2)
  have h4 := Option.some.inj h3
  unfold C at h4
  exact ht (Obj.cells.inj h4).2.1
theorem ags_blk {v : Value} {ts : List Tm} {E : List (Nat × Obj)} (h : Ags v ts E) {z : Nat × Obj} (hz : z ∈ E) : ∃ l, z.2 = C l 54 := by
  rcases h.row with ⟨_, _, _, h4⟩ | ⟨b, cap, junk, _, _, _, _, h5⟩
  · rw [h4] at hz; cases hz
  · rw [h5] at hz; rw [List.mem_singleton.1 hz]; exact ⟨_, rfl⟩
def sh64 (j : Nat) : Int := IntKind.u64.wrap (1 * 2 ^ (min (j : Int).toNat IntKind.u64.bits))
theorem sh64_eq (l : Nat) : IntKind.u64.wrap (1 * 2 ^ (min (l : Int).toNat IntKind.u64.bits)) = sh64 l := rfl
def othP (pl : Int) (j : Nat) : Int := bitsOf .xor .u64 18446744073709551615 (bitsOf .or .u64 pl (sh64 j))
def badT (oc num : List Int) (oth : Int) (t : Tm) : Bool := decide (t.k = 0) && (decide (fnI num t.v.toNat = -1) && decide (bitsOf .and .u64 (fnI oc t.v.toNat) oth ≠ 0))
def prvP (oc num : List Int) (pl : Int) (j : Nat) (a : List Tm) : Bool := a.all fun t => !(badT oc num (othP pl j) t)
theorem bad_k {oc num : List Int} {oth : Int} {t : Tm} (h : ¬ t.k = 0) : badT oc num oth t = false := by unfold badT; rw [decide_eq_false h]; rfl
theorem bad_n {oc num : List Int} {oth : Int} {t : Tm} {v : Nat} (hv : t.v = (v : Int)) (h : ¬ fnI num v = -1) : badT oc num oth t = false := by unfold badT; rw [hv, Int.toNat_natCast, decide_eq_false h]; simp
theorem bad_o {oc num : List Int} {oth : Int} {t : Tm} {v : Nat} (hv : t.v = (v : Int)) (h : bitsOf .and .u64 (fnI oc v) oth = 0) : badT oc num oth t = false := by unfold badT; rw [hv, Int.toNat_natCast, h]; simp
theorem bad_yes {oc num : List Int} {oth : Int} {t : Tm} {v : Nat} (hk : t.k = 0) (hv : t.v = (v : Int)) (h : fnI num v = -1) (h2 : ¬ bitsOf .and .u64 (fnI oc v) oth = 0) : badT oc num oth t = true := by unfold badT; rw [hv, Int.toNat_natCast]; simp [hk, h, h2]
def PvI (oc num : List Int) (oth : Int) (a : List Tm) (i : Nat) : Prop := ∀ t, t ∈ a.take i → badT oc num oth t = false
theorem PvI.next {oc num : List Int} {oth : Int} {a : List Tm} {i : Nat} {t : Tm} (h : PvI oc num oth a i) (ht : a[i]? = some t) (hb : badT oc num oth t = false) : PvI oc num oth a (i + 1) := fun u hu => by
  rcases take_mem ht hu with h1 | h1
  · exact h u h1
  · rw [h1]; exact hb
theorem prv_t {oc num : List Int} {pl : Int} {j : Nat} {a : List Tm} {i : Nat} (h : PvI oc num (othP pl j) a i) (hi : i = a.length) : prvP oc num pl j a = true := by
  unfold prvP; rw [List.all_eq_true]; intro t ht
  rw [h t (by rw [take_all hi]; exact ht)]; rfl
theorem prv_f {oc num : List Int} {pl : Int} {j : Nat} {a : List Tm} {t : Tm} (ht : t ∈ a) (hb : badT oc num (othP pl j) t = true) : prvP oc num pl j a = false := by
  unfold prvP
  cases h : a.all fun t => !(badT oc num (othP pl j) t) with
  | false => rfl
  | true => have := List.all_eq_true.1 h t ht; rw [hb] at this; cases this
theorem c4_args {xs : List LV} {j : Nat} {x : LV} (h : xs[j]? = some x) : (fl LV.c4 xs)[0 + j * 4 + 2 + 1]? = some (.slice x.p x.l.a.length x.c) := by
  have := fl_cell (f := LV.c4) (s := 4) c4_len (j := 3) (v := .slice x.p x.l.a.length x.c) h rfl []
  rw [List.append_nil] at this; exact this
theorem c4_at {xs : List LV} {j : Nat} {x : LV} (h : xs[j]? = some x) : ((fl LV.c4 xs).drop (0 + j * 4)).take 4 = x.c4 := by
  have := fl_at (f := LV.c4) (s := 4) c4_len h []
  rw [List.append_nil] at this; exact this
def twinP (oc num : List Int) (pl : Int) (i j : Nat) (p q : Lt) : Bool := decide (cmpL p q = 0) || (prvP oc num pl i p.a && prvP oc num pl j q.a)


set_option maxHeartbeats 4000000 in
theorem private_spec (X : SX) (Z : List (Nat × Obj)) (hX : SIn X Z) (s : SQ) (fb so : Nat) (fc : List Value) (hS : StA Z s fb so fc) (hok : s.ok X.vs) (j : Nat) (x : LV) (hx : X.xs[j]? = some x) : SpK Tryz.prog 115 #[.pointer (some ⟨X.sb, 0, none⟩), .pointer (some ⟨fb, so, none⟩), .int .i64 (j : Int)] (Mem Z) [] (fun u F' => u = .bool (prvP X.oc s.num s.pl j x.l.a) ∧ F' = []) := by
  refine f_enter (args := [.pointer (some ⟨X.sb, 0, none⟩), .pointer (some ⟨fb, so, none⟩), .int .i64 (j : Int)]) Tryz.func115 rfl Tryz.ntmps115 rfl ?_
  intro w0 w a hpre hl hh
  have hms := hpre _ _ hX.s; have hmb := hpre _ _ hX.b; have hmo := hpre _ _ hX.o; have hmf := hpre _ _ hS.f
  obtain ⟨hs0, hs1, hs2⟩ := hS.at_
  have h64 := hX.n64; have hv6 := hX.v6; have hnl := hok.len; have hN := hok.n; have hnbZ := hS.nb; have hol := hX.ol
  have hjn : j < X.xs.length := (List.getElem?_eq_some_iff.1 hx).1
  have hxm := List.mem_of_getElem? hx
  have hxo := hX.ok x hxm
  have hxE : Mem x.E w0 := fun b o m => hpre b o (hX.e x _ hxm m)
  have hxa := hxo.ags.len
  obtain ⟨pl, num, nx, np, nc, jn⟩ := s
  simp only at hs0 hs1 hs2 hnl hN hnbZ ⊢
  simp only [slotsFrom, Nat.reduceAdd] at hl
  refine c_seq ?_
  refine c_region ?_
  refine wl (wl_val hl rfl trivial (r_assign hl rfl) ?_)
  clear hl a; intro a hl
  refine w_nil ?_
  have hl2 := hl.add (t := 0) (hl.add (t := 1) (hl.add (t := 2) (hl.nil) rfl) rfl) rfl; clear hl; have hl := hl2; clear hl2
  refine then_normal ?_
  refine c_seq ?_
  refine c_region ?_
  refine wl (wl_val hl rfl trivial (r_move hl rfl) ?_)
  clear hl a; intro a hl
  refine wl (wl_val hl rfl trivial (r_nilCheck hl rfl) ?_)
  clear hl a; intro a hl
  refine wl (wl_val hl rfl trivial (r_field hl rfl fld129_0) ?_)
  clear hl a; intro a hl
  first | refine wl (w_load hl hh rfl trivial one49 rfl (by repeat (first | exact find_head | apply find_tail)) (by first | exact fcJ (by omega) jn | exact uI_at (by omega) | rfl) ?_) | refine wl (w_loadR hl hh rfl trivial one49 rfl hms (by simp) rfl ?_) | refine wl (w_loadR hl hh rfl trivial one49 rfl hmf (by simp) hs0 ?_) | refine wl (w_loadR hl hh rfl trivial one49 rfl hmf (by simp) hs1 ?_) | refine wl (w_loadR hl hh rfl trivial one49 rfl hmf (by simp) hs2 ?_) | refine wl (w_loadR hl hh rfl trivial one49 rfl hmb (by simp) (c4_args hx) ?_)
  clear hl a; intro a hl
  refine wl (wl_val hl rfl trivial (r_move hl rfl) ?_)
  clear hl a; intro a hl
  first | refine wl (wl_val hl rfl trivial (r_conv hl rfl Tryz.underlying3 Tryz.underlying106 (by simp only [Fits]; omega)) ?_) | refine wl (wl_val hl rfl trivial (r_convW hl rfl Tryz.underlying3 Tryz.underlying106) ?_)
  clear hl a; intro a hl
  refine wl (wl_val hl rfl trivial (r_shl hl rfl rfl (by omega)) ?_)
  clear hl a; intro a hl
  refine wl (wl_val hl rfl trivial (r_or hl rfl rfl) ?_)
  clear hl a; intro a hl
  refine wl (wl_val hl rfl trivial (r_xorI hl rfl) ?_)
  clear hl a; intro a hl
  rw [show bitsOf .xor .u64 18446744073709551615 (bitsOf .or .u64 pl (IntKind.u64.wrap (1 * 2 ^ (min (j : Int).toNat IntKind.u64.bits)))) = othP pl j from rfl] at hl
  refine wl (wl_val hl rfl trivial (r_assign hl rfl) ?_)
  clear hl a; intro a hl
  refine w_nil ?_
  have hl2 := hl.add (t := 0) (hl.add (t := 1) (hl.add (t := 2) (hl.add (t := 7) (hl.nil) rfl) rfl) rfl) rfl; clear hl; have hl := hl2; clear hl2
  refine then_normal ?_
  refine c_seq ?_
  refine c_seq ?_
  refine c_region ?_
  refine wl (wl_val hl rfl trivial (r_move hl rfl) ?_)
  clear hl a; intro a hl
  refine wl (wl_val hl rfl trivial (r_nilCheck hl rfl) ?_)
  clear hl a; intro a hl
  refine wl (wl_val hl rfl trivial (r_field hl rfl fld127_1) ?_)
  clear hl a; intro a hl
  first | refine wl (w_load hl hh rfl trivial one55 rfl (by repeat (first | exact find_head | apply find_tail)) (by first | exact fcJ (by omega) jn | exact uI_at (by omega) | rfl) ?_) | refine wl (w_loadR hl hh rfl trivial one55 rfl hms (by simp) rfl ?_) | refine wl (w_loadR hl hh rfl trivial one55 rfl hmf (by simp) hs0 ?_) | refine wl (w_loadR hl hh rfl trivial one55 rfl hmf (by simp) hs1 ?_) | refine wl (w_loadR hl hh rfl trivial one55 rfl hmf (by simp) hs2 ?_) | refine wl (w_loadR hl hh rfl trivial one55 rfl hmb (by simp) (c4_args hx) ?_)
  clear hl a; intro a hl
  refine wl (wl_val hl rfl trivial (r_move hl rfl) ?_)
  clear hl a; intro a hl
  refine wl (wl_val hl rfl trivial (r_indexS hl rfl rfl slc55 (by omega) (by omega) (by first | (simp only [Int.reduceToNat]; rfl) | exact toNat_add1 _ | exact toNat_add2 _ _ | exact toNat_emod _ _ | exact Int.toNat_natCast _ | rfl)) ?_)
  clear hl a; intro a hl
  refine wl (wl_val hl rfl trivial (r_field hl rfl fld48_2) ?_)
  clear hl a; intro a hl
  refine wl (wl_val hl rfl trivial (r_field hl rfl fld46_1) ?_)
  clear hl a; intro a hl
  first | refine wl (w_load hl hh rfl trivial one42 rfl (by repeat (first | exact find_head | apply find_tail)) (by first | exact fcJ (by omega) jn | exact uI_at (by omega) | rfl) ?_) | refine wl (w_loadR hl hh rfl trivial one42 rfl hms (by simp) rfl ?_) | refine wl (w_loadR hl hh rfl trivial one42 rfl hmf (by simp) hs0 ?_) | refine wl (w_loadR hl hh rfl trivial one42 rfl hmf (by simp) hs1 ?_) | refine wl (w_loadR hl hh rfl trivial one42 rfl hmf (by simp) hs2 ?_) | refine wl (w_loadR hl hh rfl trivial one42 rfl hmb (by simp) (c4_args hx) ?_)
  clear hl a; intro a hl
  refine wl (wl_val hl rfl trivial (r_lenS hl rfl slc42) ?_)
  clear hl a; intro a hl
  refine wl (wl_val hl rfl trivial (r_move hl rfl) ?_)
  clear hl a; intro a hl
  refine w_nil ?_
  have hl2 := hl.add (t := 0) (hl.add (t := 1) (hl.add (t := 7) (hl.add (t := 27) (hl.add (t := 28) (hl.add (t := 29) (hl.nil) rfl) rfl) rfl) rfl) rfl) rfl; clear hl; have hl := hl2; clear hl2
  refine then_normal ?_
  refine wp_block ?_
  obtain ⟨KS0, hKS0, hk⟩ := (hl.add (t := 0) (hl.add (t := 1) (hl.add (t := 7) (hl.add (t := 27) (hl.add (t := 28) (hl.nil) rfl) rfl) rfl) rfl) rfl).name
  obtain ⟨HS0, hHS0, hh2⟩ := hh.name (keeps_nil)
  refine c_loop (α := Nat) (fun i => x.l.a.length - i) (fun i a w => (i ≤ x.l.a.length ∧ PvI X.oc num (othP pl j) x.l.a i) ∧ Sl 61 ([(29, .int .i64 (i : Int))] ++ KS0) a ∧ Has _ w0 ([] ++ HS0) w) 0 ⟨⟨Nat.zero_le _, fun t ht => (by cases ht)⟩, hl.addE (t := 29) (hk) rfl (by first | rfl), hh2⟩ ?_
  clear hk hh2 hl hh a w
  intro i a w hI
  obtain ⟨⟨hi, hI⟩, hl, hh⟩ := hI
  subst hKS0; subst hHS0
  simp only [List.cons_append, List.nil_append, List.append_nil] at hl hh
  refine c_seq ?_
  refine c_region ?_
  refine wl (wl_val hl rfl trivial (r_lss hl rfl rfl) ?_)
  clear hl a; intro a hl
  refine w_nil ?_
  have hl2 := hl.add (t := 0) (hl.add (t := 1) (hl.add (t := 7) (hl.add (t := 27) (hl.add (t := 28) (hl.add (t := 29) (hl.add (t := 30) (hl.nil) rfl) rfl) rfl) rfl) rfl) rfl) rfl; clear hl; have hl := hl2; clear hl2
  refine then_normal ?_
  refine c_seq ?_
  refine c_cond hl rfl ?_ ?_
  · intro hc0
    try simp only [decide_eq_true_eq, decide_eq_false_iff_not, Bool.not_eq_true', Bool.not_eq_false', Bool.not_eq_true, Bool.not_eq_false, Bool.and_eq_true, Bool.or_eq_true, Bool.and_eq_false_iff, Bool.or_eq_false_iff, Bool.not_not, ne_eq, Int.not_lt, Int.not_le, Decidable.not_not, beq_iff_eq, bne_iff_ne] at hc0
    obtain ⟨t, htt⟩ : ∃ t, x.l.a[i]? = some t := ⟨_, List.getElem?_eq_getElem (by omega)⟩
    have htm := List.mem_of_getElem? htt
    obtain ⟨b3, j3, hq3, hE3, hm3⟩ := row_mem hxo.ags.row (by omega) hxE
    rw [hq3] at hl
    have hd3 := fl_at tmc_len htt j3
    simp only [tmc] at hd3
    refine wp_skip ?_
    refine then_normal ?_
    refine c_seq ?_
    refine wp_block ?_
    refine c_seq ?_
    refine c_region ?_
    refine wl (wl_val hl rfl trivial (r_indexS hl rfl rfl slc42 (by omega) (by omega) (by first | (simp only [Int.reduceToNat]; rfl) | exact toNat_add1 _ | exact toNat_add2 _ _ | exact toNat_emod _ _ | exact Int.toNat_natCast _ | rfl)) ?_)
    clear hl a; intro a hl
    first | refine wl (w_loadA hl hh rfl trivial agg54 rfl (by repeat (first | exact find_head | apply find_tail)) (by first | (simp only [List.getElem?_cons_zero, List.getElem?_cons_succ, Value.cells, List.take_zero, List.take_succ_cons, List.take_nil, List.drop_zero, List.drop_succ_cons, List.drop_nil, List.length_cons, List.length_nil, List.cons_append, List.nil_append, List.append_nil, Nat.zero_add, Nat.add_zero, Nat.reduceAdd, Nat.reduceBEq, Nat.reduceEqDiff, Nat.ble, BEq.rfl, Bool.and_true, Bool.and_self, cond_true, beq_self_eq_true]; rfl)) (by first | rfl | (simp; done)) ?_) | refine wl (w_loadRA hl hh rfl trivial agg54 rfl hm3 (by simp) hd3 rfl ?_)
    clear hl a; intro a hl
    refine wl (w_alloc hl hh rfl trivial zero54 rfl ?_)
    clear hl hh a w; intro k9 a w hl hh
    refine wl (w_storeA hl hh trivial agg54 rfl rfl (by repeat (first | exact find_head | apply find_tail)) (by first | rfl | (simp; done)) (by first | (simp; done) | (simp; omega)) (by first | rfl | (simp; done)) (by first | (simp only [setL, List.getElem?_cons_zero, List.getElem?_cons_succ, Value.cells, List.take_zero, List.take_succ_cons, List.take_nil, List.drop_zero, List.drop_succ_cons, List.drop_nil, List.length_cons, List.length_nil, List.cons_append, List.nil_append, List.append_nil, Nat.zero_add, Nat.add_zero, Nat.reduceAdd, Nat.reduceBEq, Nat.reduceEqDiff, Nat.ble, BEq.rfl, Bool.and_true, Bool.and_self, cond_true, beq_self_eq_true]; rfl)) ?_)
    clear hh w; intro w hh
    refine w_nil ?_
    have hl2 := hl.add (t := 0) (hl.add (t := 1) (hl.add (t := 7) (hl.add (t := 9) (hl.add (t := 27) (hl.add (t := 28) (hl.add (t := 29) (hl.nil) rfl) rfl) rfl) rfl) rfl) rfl) rfl; clear hl; have hl := hl2; clear hl2
    refine then_normal ?_
    refine c_seq ?_
    rcases Decidable.em (t.k = 0) with hk0 | hk0
    ·
      have hvb := hX.vb x t hxm htm hk0
      obtain ⟨v, hvv⟩ : ∃ v : Nat, t.v = (v : Int) := ⟨t.v.toNat, by omega⟩
      obtain ⟨nb, hqn, hncl⟩ := hN.pos (by omega)
      subst hqn
      have hmn := hpre nb (C (fl iI num ++ jn) 3) (hnbZ _ (List.mem_singleton.2 rfl))
      first | (refine c_draw [(fb, C fc 129), (nb, C (fl iI num ++ jn) 3), (X.sb, C [.string X.hs, X.hv, .slice (some ⟨X.bb, 0, none⟩) X.xs.length X.xs.length, .int .i64 (X.vs : Int), .slice (some ⟨X.ob, 0, none⟩) X.vs X.vs] 127), (X.ob, C (fl uI X.oc) 49), (k9, C [.int .u8 t.k, .int .i64 t.v, .int .i64 t.i, .string t.s] 54)] [24, 25, 26] mixed hh ?_; clear hh w; intro w hh; have hM : Mem [(fb, C fc 129), (nb, C (fl iI num ++ jn) 3), (X.sb, C [.string X.hs, X.hv, .slice (some ⟨X.bb, 0, none⟩) X.xs.length X.xs.length, .int .i64 (X.vs : Int), .slice (some ⟨X.ob, 0, none⟩) X.vs X.vs] 127), (X.ob, C (fl uI X.oc) 49), (k9, C [.int .u8 t.k, .int .i64 t.v, .int .i64 t.i, .string t.s] 54)] w := (by (repeat (first | exact Mem.nil | refine Mem.consR hh (by assumption) (by simp) ?_ | refine Mem.cons hh.mem (by (repeat (first | exact find_head | apply find_tail)); done) ?_ | fail)); done)) | (refine c_draw [(k9, C [.int .u8 t.k, .int .i64 t.v, .int .i64 t.i, .string t.s] 54)] [24, 25, 26] mixed hh ?_; clear hh w; intro w hh; have hM : Mem [(k9, C [.int .u8 t.k, .int .i64 t.v, .int .i64 t.i, .string t.s] 54)] w := (by (repeat (first | exact Mem.nil | refine Mem.consR hh (by assumption) (by simp) ?_ | refine Mem.cons hh.mem (by (repeat (first | exact find_head | apply find_tail)); done) ?_ | fail)); done))
      refine d_take (i := 0) hl rfl (by kernel_rfl) (by kernel_rfl) (by kernel_rfl) (by kernel_rfl) (by kernel_rfl) rfl trivial (fun _ _ _ h => h) hM (fun w hC => r_field hl rfl fld54_0) rfl ?_
      clear hl a; intro a hl
      refine d_take (i := 1) hl rfl (by kernel_rfl) (by kernel_rfl) (by kernel_rfl) (by kernel_rfl) (by kernel_rfl) rfl trivial (fun _ _ _ h => h) hM (fun w hC => r_loadC hl rfl one52 hC (by repeat (first | exact find_head | apply find_tail)) (by first | exact fcJ (by omega) jn | exact uI_at (by omega) | rfl)) rfl ?_
      clear hl a; intro a hl
      refine d_take (i := 2) hl rfl (by kernel_rfl) (by kernel_rfl) (by kernel_rfl) (by kernel_rfl) (by kernel_rfl) rfl trivial (fun _ _ _ h => h) hM (fun w hC => r_eql hl rfl rfl) rfl ?_
      clear hl a; intro a hl
      rw [show decide (t.k = 0) = true from decide_eq_true hk0] at hl
      refine d_take (i := 3) hl rfl (by kernel_rfl) (by kernel_rfl) (by kernel_rfl) (by kernel_rfl) (by kernel_rfl) rfl trivial (fun _ _ _ h => h) hM (fun w hC => r_move hl rfl) rfl ?_
      clear hl a; intro a hl
      refine d_take (i := 4) hl rfl (by kernel_rfl) (by kernel_rfl) (by kernel_rfl) (by kernel_rfl) (by kernel_rfl) rfl ⟨_, _, rfl, rfl, rfl⟩ (fun _ _ _ h => h) hM (fun w hC => r_move hl rfl) rfl ?_
      clear hl a; intro a hl
      refine d_take (i := 5) hl rfl (by kernel_rfl) (by kernel_rfl) (by kernel_rfl) (by kernel_rfl) (by kernel_rfl) rfl ⟨_, _, rfl, rfl, rfl⟩ (fun _ _ _ h => h) hM (fun w hC => r_nilCheck hl rfl) rfl ?_
      clear hl a; intro a hl
      refine d_take (i := 6) hl rfl (by kernel_rfl) (by kernel_rfl) (by kernel_rfl) (by kernel_rfl) (by kernel_rfl) rfl ⟨_, _, rfl, rfl, rfl⟩ (fun _ _ _ h => h) hM (fun w hC => r_field hl rfl fld129_1) rfl ?_
      clear hl a; intro a hl
      refine d_take (i := 7) hl rfl (by kernel_rfl) (by kernel_rfl) (by kernel_rfl) (by kernel_rfl) (by kernel_rfl) rfl ⟨_, _, rfl, rfl, rfl⟩ (fun _ _ _ h => h) hM (fun w hC => r_loadC hl rfl one58 hC (by repeat (first | exact find_head | apply find_tail)) (by exact hs1)) rfl ?_
      clear hl a; intro a hl
      refine d_take (i := 8) hl rfl (by kernel_rfl) (by kernel_rfl) (by kernel_rfl) (by kernel_rfl) (by kernel_rfl) rfl ⟨_, _, rfl, rfl, rfl⟩ (fun _ _ _ h => h) hM (fun w hC => r_field hl rfl fld54_1) rfl ?_
      clear hl a; intro a hl
      refine d_take (i := 9) hl rfl (by kernel_rfl) (by kernel_rfl) (by kernel_rfl) (by kernel_rfl) (by kernel_rfl) rfl ⟨_, _, rfl, rfl, rfl⟩ (fun _ _ _ h => h) hM (fun w hC => r_loadC hl rfl one3 hC (by repeat (first | exact find_head | apply find_tail)) (by first | exact fcJ (by omega) jn | exact uI_at (by omega) | rfl)) rfl ?_
      clear hl a; intro a hl
      rw [hvv] at hl
      refine d_take (i := 10) hl rfl (by kernel_rfl) (by kernel_rfl) (by kernel_rfl) (by kernel_rfl) (by kernel_rfl) rfl ⟨_, _, rfl, rfl, rfl⟩ (fun _ _ _ h => h) hM (fun w hC => r_indexS hl rfl rfl slc58 (by omega) (by omega) (by first | (simp only [Int.reduceToNat]; rfl) | exact toNat_add1 _ | exact toNat_add2 _ _ | exact toNat_emod _ _ | exact Int.toNat_natCast _ | rfl)) rfl ?_
      clear hl a; intro a hl
      refine d_take (i := 11) hl rfl (by kernel_rfl) (by kernel_rfl) (by kernel_rfl) (by kernel_rfl) (by kernel_rfl) rfl ⟨_, _, rfl, rfl, rfl⟩ (fun _ _ _ h => h) hM (fun w hC => r_loadC hl rfl one3 hC (by repeat (first | exact find_head | apply find_tail)) (by first | exact fcJ (by omega) jn | exact uI_at (by omega) | rfl)) rfl ?_
      clear hl a; intro a hl
      refine d_take (i := 12) hl rfl (by kernel_rfl) (by kernel_rfl) (by kernel_rfl) (by kernel_rfl) (by kernel_rfl) rfl ⟨_, _, rfl, rfl, rfl⟩ (fun _ _ _ h => h) hM (fun w hC => r_eql hl rfl rfl) rfl ?_
      clear hl a; intro a hl
      refine d_take (i := 13) hl rfl (by kernel_rfl) (by kernel_rfl) (by kernel_rfl) (by kernel_rfl) (by kernel_rfl) rfl trivial (fun _ _ _ h => h) hM (fun w hC => r_pickT hl rfl rfl) rfl ?_
      clear hl a; intro a hl
      refine d_take (i := 14) hl rfl (by kernel_rfl) (by kernel_rfl) (by kernel_rfl) (by kernel_rfl) (by kernel_rfl) rfl trivial (fun _ _ _ h => h) hM (fun w hC => r_move hl rfl) rfl ?_
      clear hl a; intro a hl
      refine sl_split (t := 47) hl rfl ?_ ?_
      · intro hg1; clear hl; intro hl
        try simp only [decide_eq_true_eq, decide_eq_false_iff_not, Bool.not_eq_true', Bool.not_eq_false', Bool.not_eq_true, Bool.not_eq_false, Bool.and_eq_true, Bool.or_eq_true, Bool.and_eq_false_iff, Bool.or_eq_false_iff, Bool.not_not, ne_eq, Int.not_lt, Int.not_le, Decidable.not_not, beq_iff_eq, bne_iff_ne] at hg1
        refine d_take (i := 15) hl rfl (by kernel_rfl) (by kernel_rfl) (by kernel_rfl) (by kernel_rfl) (by kernel_rfl) rfl ⟨_, _, rfl, rfl, rfl⟩ (fun _ _ _ h => h) hM (fun w hC => r_move hl rfl) rfl ?_
        clear hl a; intro a hl
        refine d_take (i := 16) hl rfl (by kernel_rfl) (by kernel_rfl) (by kernel_rfl) (by kernel_rfl) (by kernel_rfl) rfl ⟨_, _, rfl, rfl, rfl⟩ (fun _ _ _ h => h) hM (fun w hC => r_nilCheck hl rfl) rfl ?_
        clear hl a; intro a hl
        refine d_take (i := 17) hl rfl (by kernel_rfl) (by kernel_rfl) (by kernel_rfl) (by kernel_rfl) (by kernel_rfl) rfl ⟨_, _, rfl, rfl, rfl⟩ (fun _ _ _ h => h) hM (fun w hC => r_field hl rfl fld127_3) rfl ?_
        clear hl a; intro a hl
        refine d_take (i := 18) hl rfl (by kernel_rfl) (by kernel_rfl) (by kernel_rfl) (by kernel_rfl) (by kernel_rfl) rfl ⟨_, _, rfl, rfl, rfl⟩ (fun _ _ _ h => h) hM (fun w hC => r_loadC hl rfl one125 hC (by repeat (first | exact find_head | apply find_tail)) (by rfl)) rfl ?_
        clear hl a; intro a hl
        refine d_take (i := 19) hl rfl (by kernel_rfl) (by kernel_rfl) (by kernel_rfl) (by kernel_rfl) (by kernel_rfl) rfl ⟨_, _, rfl, rfl, rfl⟩ (fun _ _ _ h => h) hM (fun w hC => r_field hl rfl fld54_1) rfl ?_
        clear hl a; intro a hl
        refine d_take (i := 20) hl rfl (by kernel_rfl) (by kernel_rfl) (by kernel_rfl) (by kernel_rfl) (by kernel_rfl) rfl ⟨_, _, rfl, rfl, rfl⟩ (fun _ _ _ h => h) hM (fun w hC => r_loadC hl rfl one3 hC (by repeat (first | exact find_head | apply find_tail)) (by first | exact fcJ (by omega) jn | exact uI_at (by omega) | rfl)) rfl ?_
        clear hl a; intro a hl
        rw [hvv] at hl
        refine d_take (i := 21) hl rfl (by kernel_rfl) (by kernel_rfl) (by kernel_rfl) (by kernel_rfl) (by kernel_rfl) rfl ⟨_, _, rfl, rfl, rfl⟩ (fun _ _ _ h => h) hM (fun w hC => r_indexS hl rfl rfl slc125 (by omega) (by omega) (by first | (simp only [Int.reduceToNat]; rfl) | exact toNat_add1 _ | exact toNat_add2 _ _ | exact toNat_emod _ _ | exact Int.toNat_natCast _ | rfl)) rfl ?_
        clear hl a; intro a hl
        refine d_take (i := 22) hl rfl (by kernel_rfl) (by kernel_rfl) (by kernel_rfl) (by kernel_rfl) (by kernel_rfl) rfl ⟨_, _, rfl, rfl, rfl⟩ (fun _ _ _ h => h) hM (fun w hC => r_loadC hl rfl one49 hC (by repeat (first | exact find_head | apply find_tail)) (by first | exact fcJ (by omega) jn | exact uI_at (by omega) | rfl)) rfl ?_
        clear hl a; intro a hl
        refine d_take (i := 23) hl rfl (by kernel_rfl) (by kernel_rfl) (by kernel_rfl) (by kernel_rfl) (by kernel_rfl) rfl ⟨_, _, rfl, rfl, rfl⟩ (fun _ _ _ h => h) hM (fun w hC => r_move hl rfl) rfl ?_
        clear hl a; intro a hl
        refine d_takeL (i := 24) hl rfl (by kernel_rfl) (by kernel_rfl) (by kernel_rfl) (by kernel_rfl) (by kernel_rfl) rfl ⟨_, _, rfl, rfl, rfl⟩ (fun _ _ _ h => h) (fun w => r_and hl rfl rfl) rfl ?_
        clear hl a; intro a hl
        refine d_takeL (i := 25) hl rfl (by kernel_rfl) (by kernel_rfl) (by kernel_rfl) (by kernel_rfl) (by kernel_rfl) rfl ⟨_, _, rfl, rfl, rfl⟩ (fun _ _ _ h => h) (fun w => r_neq hl rfl rfl) rfl ?_
        clear hl a; intro a hl
        refine d_takeL (i := 26) hl rfl (by kernel_rfl) (by kernel_rfl) (by kernel_rfl) (by kernel_rfl) (by kernel_rfl) rfl trivial (fun _ _ _ h => h) (fun w => r_pickT hl rfl rfl) rfl ?_
        clear hl a; intro a hl
        refine d_done (by kernel_rfl) ?_
        try clear hM
        have hl2 := hl.add (t := 0) (hl.add (t := 1) (hl.add (t := 7) (hl.add (t := 27) (hl.add (t := 28) (hl.add (t := 29) (hl.add (t := 59) (hl.nil) rfl) rfl) rfl) rfl) rfl) rfl) rfl; clear hl; have hl := hl2; clear hl2
        refine then_normal ?_
        refine c_cond hl rfl ?_ ?_
        · intro hc1
          try simp only [decide_eq_true_eq, decide_eq_false_iff_not, Bool.not_eq_true', Bool.not_eq_false', Bool.not_eq_true, Bool.not_eq_false, Bool.and_eq_true, Bool.or_eq_true, Bool.and_eq_false_iff, Bool.or_eq_false_iff, Bool.not_not, ne_eq, Int.not_lt, Int.not_le, Decidable.not_not, beq_iff_eq, bne_iff_ne] at hc1
          refine c_seq ?_
          refine c_region ?_
          refine wl (wl_val hl rfl trivial (r_assign hl rfl) ?_)
          clear hl a; intro a hl
          refine w_nil ?_
          have hl2 := hl.add (t := 6) (hl.nil) rfl; clear hl; have hl := hl2; clear hl2
          refine then_normal ?_
          refine wp_ret ?_
          refine blk_ret ?_
          refine then_ret ?_
          refine then_ret ?_
          refine blk_ret ?_
          refine then_ret ?_
          refine f_ret1 (F' := []) hl hh rfl rfl (by repeat (first | exact keeps_nil | apply keeps_cons (by repeat (first | exact find_head | apply find_tail)) (by first  | rfl) | exact keeps_self | apply keeps_mv)) ?_
          exact ⟨congrArg Value.bool (prv_f htm (bad_yes hk0 hvv (by assumption) (by assumption))).symm, rfl⟩
        · intro hc1
          try simp only [decide_eq_true_eq, decide_eq_false_iff_not, Bool.not_eq_true', Bool.not_eq_false', Bool.not_eq_true, Bool.not_eq_false, Bool.and_eq_true, Bool.or_eq_true, Bool.and_eq_false_iff, Bool.or_eq_false_iff, Bool.not_not, ne_eq, Int.not_lt, Int.not_le, Decidable.not_not, beq_iff_eq, bne_iff_ne] at hc1
          refine wp_skip ?_
          refine blk_normal ?_
          refine then_normal ?_
          refine c_region ?_
          first | refine wl (wl_val hl rfl trivial (r_add hl rfl rfl (by simp only [Fits]; omega)) ?_) | refine wl (wl_val hl rfl trivial (r_addW hl rfl rfl) ?_)
          clear hl a; intro a hl
          refine wl (wl_val hl rfl trivial (r_move hl rfl) ?_)
          clear hl a; intro a hl
          refine w_nil ?_
          have hl2 := hl.add (t := 0) (hl.add (t := 1) (hl.add (t := 7) (hl.add (t := 27) (hl.add (t := 28) (hl.add (t := 29) (hl.nil) rfl) rfl) rfl) rfl) rfl) rfl; clear hl; have hl := hl2; clear hl2
          refine then_normal ?_
          refine ⟨i + 1, (by omega), ⟨by omega, hI.next htt (by first | exact bad_k hk0 | exact bad_n hvv (by assumption) | exact bad_o hvv (by assumption))⟩, hl.addE (t := 29) (hl.addE (t := 0) (hl.addE (t := 1) (hl.addE (t := 7) (hl.addE (t := 27) (hl.addE (t := 28) (hl.nil) rfl (by first | rfl | rfl | exact congrArg (Value.int .i64) (show (i : Int) + 1 = ((i + 1 : Nat) : Int) by omega) | (rw [hq3]))) rfl (by first | rfl | rfl | exact congrArg (Value.int .i64) (show (i : Int) + 1 = ((i + 1 : Nat) : Int) by omega) | (rw [hq3]))) rfl (by first | rfl | rfl | exact congrArg (Value.int .i64) (show (i : Int) + 1 = ((i + 1 : Nat) : Int) by omega) | (rw [hq3]))) rfl (by first | rfl | rfl | exact congrArg (Value.int .i64) (show (i : Int) + 1 = ((i + 1 : Nat) : Int) by omega) | (rw [hq3]))) rfl (by first | rfl | rfl | exact congrArg (Value.int .i64) (show (i : Int) + 1 = ((i + 1 : Nat) : Int) by omega) | (rw [hq3]))) rfl (by first | rfl | rfl | exact congrArg (Value.int .i64) (show (i : Int) + 1 = ((i + 1 : Nat) : Int) by omega) | (rw [hq3])), hh.keep (by repeat (first | exact keeps_nil | apply keeps_cons (by repeat (first | exact find_head | apply find_tail)) (by first  | rfl) | exact keeps_self | apply keeps_mv))⟩
      · intro hg1; clear hl; intro hl
        try simp only [decide_eq_true_eq, decide_eq_false_iff_not, Bool.not_eq_true', Bool.not_eq_false', Bool.not_eq_true, Bool.not_eq_false, Bool.and_eq_true, Bool.or_eq_true, Bool.and_eq_false_iff, Bool.or_eq_false_iff, Bool.not_not, ne_eq, Int.not_lt, Int.not_le, Decidable.not_not, beq_iff_eq, bne_iff_ne] at hg1
        refine d_skip (i := 15) hl rfl (by kernel_rfl) (by kernel_rfl) (by kernel_rfl) (by kernel_rfl) (by kernel_rfl) rfl ⟨_, _, rfl, rfl, rfl⟩ (fun _ _ _ h => h) hM ?_
        clear hl a; intro a hl
        refine d_skip (i := 16) hl rfl (by kernel_rfl) (by kernel_rfl) (by kernel_rfl) (by kernel_rfl) (by kernel_rfl) rfl ⟨_, _, rfl, rfl, rfl⟩ (fun _ _ _ h => h) hM ?_
        clear hl a; intro a hl
        refine d_skip (i := 17) hl rfl (by kernel_rfl) (by kernel_rfl) (by kernel_rfl) (by kernel_rfl) (by kernel_rfl) rfl ⟨_, _, rfl, rfl, rfl⟩ (fun _ _ _ h => h) hM ?_
        clear hl a; intro a hl
        refine d_skip (i := 18) hl rfl (by kernel_rfl) (by kernel_rfl) (by kernel_rfl) (by kernel_rfl) (by kernel_rfl) rfl ⟨_, _, rfl, rfl, rfl⟩ (fun _ _ _ h => h) hM ?_
        clear hl a; intro a hl
        refine d_skip (i := 19) hl rfl (by kernel_rfl) (by kernel_rfl) (by kernel_rfl) (by kernel_rfl) (by kernel_rfl) rfl ⟨_, _, rfl, rfl, rfl⟩ (fun _ _ _ h => h) hM ?_
        clear hl a; intro a hl
        refine d_skip (i := 20) hl rfl (by kernel_rfl) (by kernel_rfl) (by kernel_rfl) (by kernel_rfl) (by kernel_rfl) rfl ⟨_, _, rfl, rfl, rfl⟩ (fun _ _ _ h => h) hM ?_
        clear hl a; intro a hl
        refine d_skip (i := 21) hl rfl (by kernel_rfl) (by kernel_rfl) (by kernel_rfl) (by kernel_rfl) (by kernel_rfl) rfl ⟨_, _, rfl, rfl, rfl⟩ (fun _ _ _ h => h) hM ?_
        clear hl a; intro a hl
        refine d_skip (i := 22) hl rfl (by kernel_rfl) (by kernel_rfl) (by kernel_rfl) (by kernel_rfl) (by kernel_rfl) rfl ⟨_, _, rfl, rfl, rfl⟩ (fun _ _ _ h => h) hM ?_
        clear hl a; intro a hl
        refine d_skip (i := 23) hl rfl (by kernel_rfl) (by kernel_rfl) (by kernel_rfl) (by kernel_rfl) (by kernel_rfl) rfl ⟨_, _, rfl, rfl, rfl⟩ (fun _ _ _ h => h) hM ?_
        clear hl a; intro a hl
        refine d_skip (i := 24) hl rfl (by kernel_rfl) (by kernel_rfl) (by kernel_rfl) (by kernel_rfl) (by kernel_rfl) rfl ⟨_, _, rfl, rfl, rfl⟩ (fun _ _ _ h => h) hM ?_
        clear hl a; intro a hl
        refine d_skip (i := 25) hl rfl (by kernel_rfl) (by kernel_rfl) (by kernel_rfl) (by kernel_rfl) (by kernel_rfl) rfl ⟨_, _, rfl, rfl, rfl⟩ (fun _ _ _ h => h) hM ?_
        clear hl a; intro a hl
        refine d_takeL (i := 26) hl rfl (by kernel_rfl) (by kernel_rfl) (by kernel_rfl) (by kernel_rfl) (by kernel_rfl) rfl trivial (fun _ _ _ h => h) (fun w => r_pickF hl rfl rfl) rfl ?_
        clear hl a; intro a hl
        refine d_done (by kernel_rfl) ?_
        try clear hM
        have hl2 := hl.add (t := 0) (hl.add (t := 1) (hl.add (t := 7) (hl.add (t := 27) (hl.add (t := 28) (hl.add (t := 29) (hl.add (t := 59) (hl.nil) rfl) rfl) rfl) rfl) rfl) rfl) rfl; clear hl; have hl := hl2; clear hl2
        refine then_normal ?_
        refine c_condF hl rfl ?_
        refine wp_skip ?_
        refine blk_normal ?_
        refine then_normal ?_
        refine c_region ?_
        first | refine wl (wl_val hl rfl trivial (r_add hl rfl rfl (by simp only [Fits]; omega)) ?_) | refine wl (wl_val hl rfl trivial (r_addW hl rfl rfl) ?_)
        clear hl a; intro a hl
        refine wl (wl_val hl rfl trivial (r_move hl rfl) ?_)
        clear hl a; intro a hl
        refine w_nil ?_
        have hl2 := hl.add (t := 0) (hl.add (t := 1) (hl.add (t := 7) (hl.add (t := 27) (hl.add (t := 28) (hl.add (t := 29) (hl.nil) rfl) rfl) rfl) rfl) rfl) rfl; clear hl; have hl := hl2; clear hl2
        refine then_normal ?_
        refine ⟨i + 1, (by omega), ⟨by omega, hI.next htt (by first | exact bad_k hk0 | exact bad_n hvv (by assumption) | exact bad_o hvv (by assumption))⟩, hl.addE (t := 29) (hl.addE (t := 0) (hl.addE (t := 1) (hl.addE (t := 7) (hl.addE (t := 27) (hl.addE (t := 28) (hl.nil) rfl (by first | rfl | rfl | exact congrArg (Value.int .i64) (show (i : Int) + 1 = ((i + 1 : Nat) : Int) by omega) | (rw [hq3]))) rfl (by first | rfl | rfl | exact congrArg (Value.int .i64) (show (i : Int) + 1 = ((i + 1 : Nat) : Int) by omega) | (rw [hq3]))) rfl (by first | rfl | rfl | exact congrArg (Value.int .i64) (show (i : Int) + 1 = ((i + 1 : Nat) : Int) by omega) | (rw [hq3]))) rfl (by first | rfl | rfl | exact congrArg (Value.int .i64) (show (i : Int) + 1 = ((i + 1 : Nat) : Int) by omega) | (rw [hq3]))) rfl (by first | rfl | rfl | exact congrArg (Value.int .i64) (show (i : Int) + 1 = ((i + 1 : Nat) : Int) by omega) | (rw [hq3]))) rfl (by first | rfl | rfl | exact congrArg (Value.int .i64) (show (i : Int) + 1 = ((i + 1 : Nat) : Int) by omega) | (rw [hq3])), hh.keep (by repeat (first | exact keeps_nil | apply keeps_cons (by repeat (first | exact find_head | apply find_tail)) (by first  | rfl) | exact keeps_self | apply keeps_mv))⟩
    ·
      first | (refine c_draw [(fb, C fc 129), (nb, C (fl iI num ++ jn) 3), (X.sb, C [.string X.hs, X.hv, .slice (some ⟨X.bb, 0, none⟩) X.xs.length X.xs.length, .int .i64 (X.vs : Int), .slice (some ⟨X.ob, 0, none⟩) X.vs X.vs] 127), (X.ob, C (fl uI X.oc) 49), (k9, C [.int .u8 t.k, .int .i64 t.v, .int .i64 t.i, .string t.s] 54)] [24, 25, 26] mixed hh ?_; clear hh w; intro w hh; have hM : Mem [(fb, C fc 129), (nb, C (fl iI num ++ jn) 3), (X.sb, C [.string X.hs, X.hv, .slice (some ⟨X.bb, 0, none⟩) X.xs.length X.xs.length, .int .i64 (X.vs : Int), .slice (some ⟨X.ob, 0, none⟩) X.vs X.vs] 127), (X.ob, C (fl uI X.oc) 49), (k9, C [.int .u8 t.k, .int .i64 t.v, .int .i64 t.i, .string t.s] 54)] w := (by (repeat (first | exact Mem.nil | refine Mem.consR hh (by assumption) (by simp) ?_ | refine Mem.cons hh.mem (by (repeat (first | exact find_head | apply find_tail)); done) ?_ | fail)); done)) | (refine c_draw [(k9, C [.int .u8 t.k, .int .i64 t.v, .int .i64 t.i, .string t.s] 54)] [24, 25, 26] mixed hh ?_; clear hh w; intro w hh; have hM : Mem [(k9, C [.int .u8 t.k, .int .i64 t.v, .int .i64 t.i, .string t.s] 54)] w := (by (repeat (first | exact Mem.nil | refine Mem.consR hh (by assumption) (by simp) ?_ | refine Mem.cons hh.mem (by (repeat (first | exact find_head | apply find_tail)); done) ?_ | fail)); done))
      refine d_take (i := 0) hl rfl (by kernel_rfl) (by kernel_rfl) (by kernel_rfl) (by kernel_rfl) (by kernel_rfl) rfl trivial (fun _ _ _ h => h) hM (fun w hC => r_field hl rfl fld54_0) rfl ?_
      clear hl a; intro a hl
      refine d_take (i := 1) hl rfl (by kernel_rfl) (by kernel_rfl) (by kernel_rfl) (by kernel_rfl) (by kernel_rfl) rfl trivial (fun _ _ _ h => h) hM (fun w hC => r_loadC hl rfl one52 hC (by repeat (first | exact find_head | apply find_tail)) (by first | exact fcJ (by omega) jn | exact uI_at (by omega) | rfl)) rfl ?_
      clear hl a; intro a hl
      refine d_take (i := 2) hl rfl (by kernel_rfl) (by kernel_rfl) (by kernel_rfl) (by kernel_rfl) (by kernel_rfl) rfl trivial (fun _ _ _ h => h) hM (fun w hC => r_eql hl rfl rfl) rfl ?_
      clear hl a; intro a hl
      rw [show decide (t.k = 0) = false from decide_eq_false hk0] at hl
      refine d_take (i := 3) hl rfl (by kernel_rfl) (by kernel_rfl) (by kernel_rfl) (by kernel_rfl) (by kernel_rfl) rfl trivial (fun _ _ _ h => h) hM (fun w hC => r_move hl rfl) rfl ?_
      clear hl a; intro a hl
      refine d_skip (i := 4) hl rfl (by kernel_rfl) (by kernel_rfl) (by kernel_rfl) (by kernel_rfl) (by kernel_rfl) rfl ⟨_, _, rfl, rfl, rfl⟩ (fun _ _ _ h => h) hM ?_
      clear hl a; intro a hl
      refine d_skip (i := 5) hl rfl (by kernel_rfl) (by kernel_rfl) (by kernel_rfl) (by kernel_rfl) (by kernel_rfl) rfl ⟨_, _, rfl, rfl, rfl⟩ (fun _ _ _ h => h) hM ?_
      clear hl a; intro a hl
      refine d_skip (i := 6) hl rfl (by kernel_rfl) (by kernel_rfl) (by kernel_rfl) (by kernel_rfl) (by kernel_rfl) rfl ⟨_, _, rfl, rfl, rfl⟩ (fun _ _ _ h => h) hM ?_
      clear hl a; intro a hl
      refine d_skip (i := 7) hl rfl (by kernel_rfl) (by kernel_rfl) (by kernel_rfl) (by kernel_rfl) (by kernel_rfl) rfl ⟨_, _, rfl, rfl, rfl⟩ (fun _ _ _ h => h) hM ?_
      clear hl a; intro a hl
      refine d_skip (i := 8) hl rfl (by kernel_rfl) (by kernel_rfl) (by kernel_rfl) (by kernel_rfl) (by kernel_rfl) rfl ⟨_, _, rfl, rfl, rfl⟩ (fun _ _ _ h => h) hM ?_
      clear hl a; intro a hl
      refine d_skip (i := 9) hl rfl (by kernel_rfl) (by kernel_rfl) (by kernel_rfl) (by kernel_rfl) (by kernel_rfl) rfl ⟨_, _, rfl, rfl, rfl⟩ (fun _ _ _ h => h) hM ?_
      clear hl a; intro a hl
      refine d_skip (i := 10) hl rfl (by kernel_rfl) (by kernel_rfl) (by kernel_rfl) (by kernel_rfl) (by kernel_rfl) rfl ⟨_, _, rfl, rfl, rfl⟩ (fun _ _ _ h => h) hM ?_
      clear hl a; intro a hl
      refine d_skip (i := 11) hl rfl (by kernel_rfl) (by kernel_rfl) (by kernel_rfl) (by kernel_rfl) (by kernel_rfl) rfl ⟨_, _, rfl, rfl, rfl⟩ (fun _ _ _ h => h) hM ?_
      clear hl a; intro a hl
      refine d_skip (i := 12) hl rfl (by kernel_rfl) (by kernel_rfl) (by kernel_rfl) (by kernel_rfl) (by kernel_rfl) rfl ⟨_, _, rfl, rfl, rfl⟩ (fun _ _ _ h => h) hM ?_
      clear hl a; intro a hl
      refine d_take (i := 13) hl rfl (by kernel_rfl) (by kernel_rfl) (by kernel_rfl) (by kernel_rfl) (by kernel_rfl) rfl trivial (fun _ _ _ h => h) hM (fun w hC => r_pickF hl rfl rfl) rfl ?_
      clear hl a; intro a hl
      refine d_take (i := 14) hl rfl (by kernel_rfl) (by kernel_rfl) (by kernel_rfl) (by kernel_rfl) (by kernel_rfl) rfl trivial (fun _ _ _ h => h) hM (fun w hC => r_move hl rfl) rfl ?_
      clear hl a; intro a hl
      refine d_skip (i := 15) hl rfl (by kernel_rfl) (by kernel_rfl) (by kernel_rfl) (by kernel_rfl) (by kernel_rfl) rfl ⟨_, _, rfl, rfl, rfl⟩ (fun _ _ _ h => h) hM ?_
      clear hl a; intro a hl
      refine d_skip (i := 16) hl rfl (by kernel_rfl) (by kernel_rfl) (by kernel_rfl) (by kernel_rfl) (by kernel_rfl) rfl ⟨_, _, rfl, rfl, rfl⟩ (fun _ _ _ h => h) hM ?_
      clear hl a; intro a hl
      refine d_skip (i := 17) hl rfl (by kernel_rfl) (by kernel_rfl) (by kernel_rfl) (by kernel_rfl) (by kernel_rfl) rfl ⟨_, _, rfl, rfl, rfl⟩ (fun _ _ _ h => h) hM ?_
      clear hl a; intro a hl
      refine d_skip (i := 18) hl rfl (by kernel_rfl) (by kernel_rfl) (by kernel_rfl) (by kernel_rfl) (by kernel_rfl) rfl ⟨_, _, rfl, rfl, rfl⟩ (fun _ _ _ h => h) hM ?_
      clear hl a; intro a hl
      refine d_skip (i := 19) hl rfl (by kernel_rfl) (by kernel_rfl) (by kernel_rfl) (by kernel_rfl) (by kernel_rfl) rfl ⟨_, _, rfl, rfl, rfl⟩ (fun _ _ _ h => h) hM ?_
      clear hl a; intro a hl
      refine d_skip (i := 20) hl rfl (by kernel_rfl) (by kernel_rfl) (by kernel_rfl) (by kernel_rfl) (by kernel_rfl) rfl ⟨_, _, rfl, rfl, rfl⟩ (fun _ _ _ h => h) hM ?_
      clear hl a; intro a hl
      refine d_skip (i := 21) hl rfl (by kernel_rfl) (by kernel_rfl) (by kernel_rfl) (by kernel_rfl) (by kernel_rfl) rfl ⟨_, _, rfl, rfl, rfl⟩ (fun _ _ _ h => h) hM ?_
      clear hl a; intro a hl
      refine d_skip (i := 22) hl rfl (by kernel_rfl) (by kernel_rfl) (by kernel_rfl) (by kernel_rfl) (by kernel_rfl) rfl ⟨_, _, rfl, rfl, rfl⟩ (fun _ _ _ h => h) hM ?_
      clear hl a; intro a hl
      refine d_skip (i := 23) hl rfl (by kernel_rfl) (by kernel_rfl) (by kernel_rfl) (by kernel_rfl) (by kernel_rfl) rfl ⟨_, _, rfl, rfl, rfl⟩ (fun _ _ _ h => h) hM ?_
      clear hl a; intro a hl
      refine d_skip (i := 24) hl rfl (by kernel_rfl) (by kernel_rfl) (by kernel_rfl) (by kernel_rfl) (by kernel_rfl) rfl ⟨_, _, rfl, rfl, rfl⟩ (fun _ _ _ h => h) hM ?_
      clear hl a; intro a hl
      refine d_skip (i := 25) hl rfl (by kernel_rfl) (by kernel_rfl) (by kernel_rfl) (by kernel_rfl) (by kernel_rfl) rfl ⟨_, _, rfl, rfl, rfl⟩ (fun _ _ _ h => h) hM ?_
      clear hl a; intro a hl
      refine d_takeL (i := 26) hl rfl (by kernel_rfl) (by kernel_rfl) (by kernel_rfl) (by kernel_rfl) (by kernel_rfl) rfl trivial (fun _ _ _ h => h) (fun w => r_pickF hl rfl rfl) rfl ?_
      clear hl a; intro a hl
      refine d_done (by kernel_rfl) ?_
      try clear hM
      have hl2 := hl.add (t := 0) (hl.add (t := 1) (hl.add (t := 7) (hl.add (t := 27) (hl.add (t := 28) (hl.add (t := 29) (hl.add (t := 59) (hl.nil) rfl) rfl) rfl) rfl) rfl) rfl) rfl; clear hl; have hl := hl2; clear hl2
      refine then_normal ?_
      refine c_condF hl rfl ?_
      refine wp_skip ?_
      refine blk_normal ?_
      refine then_normal ?_
      refine c_region ?_
      first | refine wl (wl_val hl rfl trivial (r_add hl rfl rfl (by simp only [Fits]; omega)) ?_) | refine wl (wl_val hl rfl trivial (r_addW hl rfl rfl) ?_)
      clear hl a; intro a hl
      refine wl (wl_val hl rfl trivial (r_move hl rfl) ?_)
      clear hl a; intro a hl
      refine w_nil ?_
      have hl2 := hl.add (t := 0) (hl.add (t := 1) (hl.add (t := 7) (hl.add (t := 27) (hl.add (t := 28) (hl.add (t := 29) (hl.nil) rfl) rfl) rfl) rfl) rfl) rfl; clear hl; have hl := hl2; clear hl2
      refine then_normal ?_
      refine ⟨i + 1, (by omega), ⟨by omega, hI.next htt (by first | exact bad_k hk0 | exact bad_n hvv (by assumption) | exact bad_o hvv (by assumption))⟩, hl.addE (t := 29) (hl.addE (t := 0) (hl.addE (t := 1) (hl.addE (t := 7) (hl.addE (t := 27) (hl.addE (t := 28) (hl.nil) rfl (by first | rfl | rfl | exact congrArg (Value.int .i64) (show (i : Int) + 1 = ((i + 1 : Nat) : Int) by omega) | (rw [hq3]))) rfl (by first | rfl | rfl | exact congrArg (Value.int .i64) (show (i : Int) + 1 = ((i + 1 : Nat) : Int) by omega) | (rw [hq3]))) rfl (by first | rfl | rfl | exact congrArg (Value.int .i64) (show (i : Int) + 1 = ((i + 1 : Nat) : Int) by omega) | (rw [hq3]))) rfl (by first | rfl | rfl | exact congrArg (Value.int .i64) (show (i : Int) + 1 = ((i + 1 : Nat) : Int) by omega) | (rw [hq3]))) rfl (by first | rfl | rfl | exact congrArg (Value.int .i64) (show (i : Int) + 1 = ((i + 1 : Nat) : Int) by omega) | (rw [hq3]))) rfl (by first | rfl | rfl | exact congrArg (Value.int .i64) (show (i : Int) + 1 = ((i + 1 : Nat) : Int) by omega) | (rw [hq3])), hh.keep (by repeat (first | exact keeps_nil | apply keeps_cons (by repeat (first | exact find_head | apply find_tail)) (by first  | rfl) | exact keeps_self | apply keeps_mv))⟩
  · intro hc0
    try simp only [decide_eq_true_eq, decide_eq_false_iff_not, Bool.not_eq_true', Bool.not_eq_false', Bool.not_eq_true, Bool.not_eq_false, Bool.and_eq_true, Bool.or_eq_true, Bool.and_eq_false_iff, Bool.or_eq_false_iff, Bool.not_not, ne_eq, Int.not_lt, Int.not_le, Decidable.not_not, beq_iff_eq, bne_iff_ne] at hc0
    refine wp_exit ?_
    refine then_exit ?_
    refine then_exit ?_
    refine blk_exit ?_
    refine then_normal ?_
    refine c_seq ?_
    refine c_region ?_
    refine wl (wl_val hl rfl trivial (r_assign hl rfl) ?_)
    clear hl a; intro a hl
    refine w_nil ?_
    have hl2 := hl.add (t := 6) (hl.nil) rfl; clear hl; have hl := hl2; clear hl2
    refine then_normal ?_
    refine wp_ret ?_
    refine f_ret1 (F' := []) hl hh rfl rfl (by repeat (first | exact keeps_nil | apply keeps_cons (by repeat (first | exact find_head | apply find_tail)) (by first  | rfl) | exact keeps_self | apply keeps_mv)) ?_
    exact ⟨congrArg Value.bool (prv_t hI (by omega)).symm, rfl⟩

set_option maxHeartbeats 4000000 in
theorem twins_spec (X : SX) (Z : List (Nat × Obj)) (hX : SIn X Z) (s : SQ) (fb so : Nat) (fc : List Value) (hS : StA Z s fb so fc) (hok : s.ok X.vs) (i j : Nat) (x y : LV) (hx : X.xs[i]? = some x) (hy : X.xs[j]? = some y) : SpK Tryz.prog 87 #[.pointer (some ⟨X.sb, 0, none⟩), .pointer (some ⟨fb, so, none⟩), .int .i64 (i : Int), .int .i64 (j : Int)] (Mem Z) [] (fun u F' => u = .bool (twinP X.oc s.num s.pl i j x.l y.l) ∧ F' = []) := by
  refine f_enter (args := [.pointer (some ⟨X.sb, 0, none⟩), .pointer (some ⟨fb, so, none⟩), .int .i64 (i : Int), .int .i64 (j : Int)]) Tryz.func87 rfl Tryz.ntmps87 rfl ?_
  intro w0 w a hpre hl hh
  have hms := hpre _ _ hX.s; have hmb := hpre _ _ hX.b
  have hin : i < X.xs.length := (List.getElem?_eq_some_iff.1 hx).1
  have hjn : j < X.xs.length := (List.getElem?_eq_some_iff.1 hy).1
  have hxm := List.mem_of_getElem? hx
  have hym := List.mem_of_getElem? hy
  have hxE : Mem x.E w0 := fun b o m => hpre b o (hX.e x _ hxm m)
  have hyE : Mem y.E w0 := fun b o m => hpre b o (hX.e y _ hym m)
  have hq1 := c4_at hx
  have hq2 := c4_at hy
  simp only [LV.c4] at hq1 hq2
  simp only [slotsFrom, Nat.reduceAdd] at hl
  refine c_seq ?_
  refine c_region ?_
  refine wl (wl_val hl rfl trivial (r_assign hl rfl) ?_)
  clear hl a; intro a hl
  refine w_nil ?_
  have hl2 := hl.add (t := 0) (hl.add (t := 1) (hl.add (t := 2) (hl.add (t := 3) (hl.nil) rfl) rfl) rfl) rfl; clear hl; have hl := hl2; clear hl2
  refine then_normal ?_
  refine c_seq ?_
  refine c_seq ?_
  refine c_draw [(X.sb, C [.string X.hs, X.hv, .slice (some ⟨X.bb, 0, none⟩) X.xs.length X.xs.length, .int .i64 (X.vs : Int), .slice (some ⟨X.ob, 0, none⟩) X.vs X.vs] 127), (X.bb, C (fl LV.c4 X.xs) 48)] [14, 15] mixed hh ?_
  clear hh w; intro w hh
  have hM : Mem [(X.sb, C [.string X.hs, X.hv, .slice (some ⟨X.bb, 0, none⟩) X.xs.length X.xs.length, .int .i64 (X.vs : Int), .slice (some ⟨X.ob, 0, none⟩) X.vs X.vs] 127), (X.bb, C (fl LV.c4 X.xs) 48)] w := (by (repeat (first | exact Mem.nil | refine Mem.consR hh (by assumption) (by simp) ?_ | refine Mem.cons hh.mem (by (repeat (first | exact find_head | apply find_tail)); done) ?_ | fail)); done)
  refine d_take (i := 0) hl rfl (by kernel_rfl) (by kernel_rfl) (by kernel_rfl) (by kernel_rfl) (by kernel_rfl) rfl trivial (fun _ _ _ h => h) hM (fun w hC => r_move hl rfl) rfl ?_
  clear hl a; intro a hl
  refine d_take (i := 1) hl rfl (by kernel_rfl) (by kernel_rfl) (by kernel_rfl) (by kernel_rfl) (by kernel_rfl) rfl trivial (fun _ _ _ h => h) hM (fun w hC => r_nilCheck hl rfl) rfl ?_
  clear hl a; intro a hl
  refine d_take (i := 2) hl rfl (by kernel_rfl) (by kernel_rfl) (by kernel_rfl) (by kernel_rfl) (by kernel_rfl) rfl trivial (fun _ _ _ h => h) hM (fun w hC => r_field hl rfl fld127_1) rfl ?_
  clear hl a; intro a hl
  refine d_take (i := 3) hl rfl (by kernel_rfl) (by kernel_rfl) (by kernel_rfl) (by kernel_rfl) (by kernel_rfl) rfl trivial (fun _ _ _ h => h) hM (fun w hC => r_loadC hl rfl one55 hC (by repeat (first | exact find_head | apply find_tail)) (by rfl)) rfl ?_
  clear hl a; intro a hl
  refine d_take (i := 4) hl rfl (by kernel_rfl) (by kernel_rfl) (by kernel_rfl) (by kernel_rfl) (by kernel_rfl) rfl trivial (fun _ _ _ h => h) hM (fun w hC => r_move hl rfl) rfl ?_
  clear hl a; intro a hl
  refine d_take (i := 5) hl rfl (by kernel_rfl) (by kernel_rfl) (by kernel_rfl) (by kernel_rfl) (by kernel_rfl) rfl trivial (fun _ _ _ h => h) hM (fun w hC => r_indexS hl rfl rfl slc55 (by omega) (by omega) (by first | (simp only [Int.reduceToNat]; rfl) | exact toNat_add1 _ | exact toNat_add2 _ _ | exact toNat_emod _ _ | exact Int.toNat_natCast _ | rfl)) rfl ?_
  clear hl a; intro a hl
  refine d_take (i := 6) hl rfl (by kernel_rfl) (by kernel_rfl) (by kernel_rfl) (by kernel_rfl) (by kernel_rfl) rfl trivial (fun _ _ _ h => h) hM (fun w hC => r_loadCA hl rfl agg48 hC (by repeat (first | exact find_head | apply find_tail)) (by first | exact hq1 | exact hq2 | (simp only [List.getElem?_cons_zero, List.getElem?_cons_succ, Value.cells, List.take_zero, List.take_succ_cons, List.take_nil, List.drop_zero, List.drop_succ_cons, List.drop_nil, List.length_cons, List.length_nil, List.cons_append, List.nil_append, List.append_nil, Nat.zero_add, Nat.add_zero, Nat.reduceAdd, Nat.reduceBEq, Nat.reduceEqDiff, Nat.ble, BEq.rfl, Bool.and_true, Bool.and_self, cond_true, beq_self_eq_true]; rfl)) (by first | rfl | (simp; done))) rfl ?_
  clear hl a; intro a hl
  refine d_take (i := 7) hl rfl (by kernel_rfl) (by kernel_rfl) (by kernel_rfl) (by kernel_rfl) (by kernel_rfl) rfl trivial (fun _ _ _ h => h) hM (fun w hC => r_move hl rfl) rfl ?_
  clear hl a; intro a hl
  refine d_take (i := 8) hl rfl (by kernel_rfl) (by kernel_rfl) (by kernel_rfl) (by kernel_rfl) (by kernel_rfl) rfl trivial (fun _ _ _ h => h) hM (fun w hC => r_nilCheck hl rfl) rfl ?_
  clear hl a; intro a hl
  refine d_take (i := 9) hl rfl (by kernel_rfl) (by kernel_rfl) (by kernel_rfl) (by kernel_rfl) (by kernel_rfl) rfl trivial (fun _ _ _ h => h) hM (fun w hC => r_field hl rfl fld127_1) rfl ?_
  clear hl a; intro a hl
  refine d_take (i := 10) hl rfl (by kernel_rfl) (by kernel_rfl) (by kernel_rfl) (by kernel_rfl) (by kernel_rfl) rfl trivial (fun _ _ _ h => h) hM (fun w hC => r_loadC hl rfl one55 hC (by repeat (first | exact find_head | apply find_tail)) (by rfl)) rfl ?_
  clear hl a; intro a hl
  refine d_take (i := 11) hl rfl (by kernel_rfl) (by kernel_rfl) (by kernel_rfl) (by kernel_rfl) (by kernel_rfl) rfl trivial (fun _ _ _ h => h) hM (fun w hC => r_move hl rfl) rfl ?_
  clear hl a; intro a hl
  refine d_take (i := 12) hl rfl (by kernel_rfl) (by kernel_rfl) (by kernel_rfl) (by kernel_rfl) (by kernel_rfl) rfl trivial (fun _ _ _ h => h) hM (fun w hC => r_indexS hl rfl rfl slc55 (by omega) (by omega) (by first | (simp only [Int.reduceToNat]; rfl) | exact toNat_add1 _ | exact toNat_add2 _ _ | exact toNat_emod _ _ | exact Int.toNat_natCast _ | rfl)) rfl ?_
  clear hl a; intro a hl
  refine d_take (i := 13) hl rfl (by kernel_rfl) (by kernel_rfl) (by kernel_rfl) (by kernel_rfl) (by kernel_rfl) rfl trivial (fun _ _ _ h => h) hM (fun w hC => r_loadCA hl rfl agg48 hC (by repeat (first | exact find_head | apply find_tail)) (by first | exact hq1 | exact hq2 | (simp only [List.getElem?_cons_zero, List.getElem?_cons_succ, Value.cells, List.take_zero, List.take_succ_cons, List.take_nil, List.drop_zero, List.drop_succ_cons, List.drop_nil, List.length_cons, List.length_nil, List.cons_append, List.nil_append, List.append_nil, Nat.zero_add, Nat.add_zero, Nat.reduceAdd, Nat.reduceBEq, Nat.reduceEqDiff, Nat.ble, BEq.rfl, Bool.and_true, Bool.and_self, cond_true, beq_self_eq_true]; rfl)) (by first | rfl | (simp; done))) rfl ?_
  clear hl a; intro a hl
  refine d_one (i := 14) (by kernel_rfl) rfl ?_
  try clear hM
  refine id (w_call hl hh rfl trivial rfl cal61 rfl (cmpL_spec x y (hX.ok x hxm) (hX.ok y hym)) (by repeat (first | exact keeps_nil | apply keeps_cons (by repeat (first | exact find_head | apply find_tail)) (by first  | rfl) | exact keeps_self | apply keeps_mv)) ⟨mem_keep hh hxE, mem_keep hh hyE⟩ ?_)
  clear hl hh a w; intro vc Fc a w hR hl hh
  obtain ⟨rfl, rfl⟩ := hR
  try simp only [List.cons_append, List.nil_append] at hh
  refine d_step (fun h => absurd h (by decide)) ?_
  refine d_takeL (i := 15) hl rfl (by kernel_rfl) (by kernel_rfl) (by kernel_rfl) (by kernel_rfl) (by kernel_rfl) rfl trivial (fun _ _ _ h => h) (fun w => r_eql hl rfl rfl) rfl ?_
  clear hl a; intro a hl
  refine d_done (by kernel_rfl) ?_
  try clear hM
  have hl2 := hl.add (t := 0) (hl.add (t := 1) (hl.add (t := 2) (hl.add (t := 3) (hl.add (t := 24) (hl.nil) rfl) rfl) rfl) rfl) rfl; clear hl; have hl := hl2; clear hl2
  refine then_normal ?_
  refine c_cond hl rfl ?_ ?_
  · intro hc0
    try simp only [decide_eq_true_eq, decide_eq_false_iff_not, Bool.not_eq_true', Bool.not_eq_false', Bool.not_eq_true, Bool.not_eq_false, Bool.and_eq_true, Bool.or_eq_true, Bool.and_eq_false_iff, Bool.or_eq_false_iff, Bool.not_not, ne_eq, Int.not_lt, Int.not_le, Decidable.not_not, beq_iff_eq, bne_iff_ne] at hc0
    refine c_seq ?_
    refine c_region ?_
    refine wl (wl_val hl rfl trivial (r_assign hl rfl) ?_)
    clear hl a; intro a hl
    refine w_nil ?_
    have hl2 := hl.add (t := 8) (hl.nil) rfl; clear hl; have hl := hl2; clear hl2
    refine then_normal ?_
    refine wp_ret ?_
    refine then_ret ?_
    refine f_ret1 (F' := []) hl hh rfl rfl (by repeat (first | exact keeps_nil | apply keeps_cons (by repeat (first | exact find_head | apply find_tail)) (by first  | rfl) | exact keeps_self | apply keeps_mv)) ?_
    exact ⟨congrArg Value.bool (by unfold twinP; rw [decide_eq_true (by assumption)]; rfl), rfl⟩
  · intro hc0
    try simp only [decide_eq_true_eq, decide_eq_false_iff_not, Bool.not_eq_true', Bool.not_eq_false', Bool.not_eq_true, Bool.not_eq_false, Bool.and_eq_true, Bool.or_eq_true, Bool.and_eq_false_iff, Bool.or_eq_false_iff, Bool.not_not, ne_eq, Int.not_lt, Int.not_le, Decidable.not_not, beq_iff_eq, bne_iff_ne] at hc0
    refine wp_skip ?_
    refine then_normal ?_
    refine c_seq ?_
    refine c_region ?_
    refine wl (wl_val hl rfl trivial (r_move hl rfl) ?_)
    clear hl a; intro a hl
    refine wl (wl_val hl rfl trivial (r_move hl rfl) ?_)
    clear hl a; intro a hl
    refine wl (wl_val hl rfl trivial (r_move hl rfl) ?_)
    clear hl a; intro a hl
    refine wl (w_call hl hh rfl trivial rfl cal115 rfl (private_spec X Z hX s fb so fc hS hok i x hx) (by repeat (first | exact keeps_nil | apply keeps_cons (by repeat (first | exact find_head | apply find_tail)) (by first  | rfl) | exact keeps_self | apply keeps_mv)) (mem_keep hh hpre) ?_)
    clear hl hh a w; intro vc Fc a w hR hl hh
    obtain ⟨rfl, rfl⟩ := hR
    try simp only [List.cons_append, List.nil_append] at hh
    refine wl (wl_val hl rfl trivial (r_move hl rfl) ?_)
    clear hl a; intro a hl
    refine sl_split (t := 29) hl rfl ?_ ?_
    · intro hg1; clear hl; intro hl
      try simp only [decide_eq_true_eq, decide_eq_false_iff_not, Bool.not_eq_true', Bool.not_eq_false', Bool.not_eq_true, Bool.not_eq_false, Bool.and_eq_true, Bool.or_eq_true, Bool.and_eq_false_iff, Bool.or_eq_false_iff, Bool.not_not, ne_eq, Int.not_lt, Int.not_le, Decidable.not_not, beq_iff_eq, bne_iff_ne] at hg1
      refine wl (wl_val hl rfl ⟨_, _, rfl, rfl, rfl⟩ (r_move hl rfl) ?_)
      clear hl a; intro a hl
      refine wl (wl_val hl rfl ⟨_, _, rfl, rfl, rfl⟩ (r_move hl rfl) ?_)
      clear hl a; intro a hl
      refine wl (wl_val hl rfl ⟨_, _, rfl, rfl, rfl⟩ (r_move hl rfl) ?_)
      clear hl a; intro a hl
      refine wl (w_call hl hh rfl ⟨_, _, rfl, rfl, rfl⟩ rfl cal115 rfl (private_spec X Z hX s fb so fc hS hok j y hy) (by repeat (first | exact keeps_nil | apply keeps_cons (by repeat (first | exact find_head | apply find_tail)) (by first  | rfl) | exact keeps_self | apply keeps_mv)) (mem_keep hh hpre) ?_)
      clear hl hh a w; intro vc Fc a w hR hl hh
      obtain ⟨rfl, rfl⟩ := hR
      try simp only [List.cons_append, List.nil_append] at hh
      refine wl (wl_val hl rfl trivial (r_pickT hl rfl rfl) ?_)
      clear hl a; intro a hl
      refine wl (wl_val hl rfl trivial (r_assign hl rfl) ?_)
      clear hl a; intro a hl
      refine w_nil ?_
      have hl2 := hl.add (t := 8) (hl.nil) rfl; clear hl; have hl := hl2; clear hl2
      refine then_normal ?_
      refine wp_ret ?_
      refine f_ret1 (F' := []) hl hh rfl rfl (by repeat (first | exact keeps_nil | apply keeps_cons (by repeat (first | exact find_head | apply find_tail)) (by first  | rfl) | exact keeps_self | apply keeps_mv)) ?_
      exact ⟨congrArg Value.bool (by unfold twinP; rw [decide_eq_false (by assumption)]; simp_all), rfl⟩
    · intro hg1; clear hl; intro hl
      try simp only [decide_eq_true_eq, decide_eq_false_iff_not, Bool.not_eq_true', Bool.not_eq_false', Bool.not_eq_true, Bool.not_eq_false, Bool.and_eq_true, Bool.or_eq_true, Bool.and_eq_false_iff, Bool.or_eq_false_iff, Bool.not_not, ne_eq, Int.not_lt, Int.not_le, Decidable.not_not, beq_iff_eq, bne_iff_ne] at hg1
      refine wl (wl_skip hl rfl ⟨_, _, rfl, rfl, rfl⟩ ?_)
      clear hl a; intro a hl
      refine wl (wl_skip hl rfl ⟨_, _, rfl, rfl, rfl⟩ ?_)
      clear hl a; intro a hl
      refine wl (wl_skip hl rfl ⟨_, _, rfl, rfl, rfl⟩ ?_)
      clear hl a; intro a hl
      refine wl (wl_skip hl rfl ⟨_, _, rfl, rfl, rfl⟩ ?_)
      clear hl a; intro a hl
      refine wl (wl_val hl rfl trivial (r_pickF hl rfl rfl) ?_)
      clear hl a; intro a hl
      refine wl (wl_val hl rfl trivial (r_assign hl rfl) ?_)
      clear hl a; intro a hl
      refine w_nil ?_
      have hl2 := hl.add (t := 8) (hl.nil) rfl; clear hl; have hl := hl2; clear hl2
      refine then_normal ?_
      refine wp_ret ?_
      refine f_ret1 (F' := []) hl hh rfl rfl (by repeat (first | exact keeps_nil | apply keeps_cons (by repeat (first | exact find_head | apply find_tail)) (by first  | rfl) | exact keeps_self | apply keeps_mv)) ?_
      exact ⟨congrArg Value.bool (by unfold twinP; rw [decide_eq_false (by assumption)]; simp_all), rfl⟩
end Go.Proofs.Qxb6500915aGreatDoor

import Derived.Test.Qxb6500915aB3
namespace Go.Proofs.Qxb6500915a
open Go.Eng
set_option linter.unusedVariables false
set_option linter.unusedSimpArgs false
theorem fld47_0 : fieldOk Try.prog 47 0 0 = true := by kernel_rfl
theorem one45 : oneOk Try.prog 45 = true := by kernel_rfl
theorem fld44_1 : fieldOk Try.prog 44 1 2 = true := by kernel_rfl
theorem one25 : oneOk Try.prog 25 = true := by kernel_rfl
theorem slc25 : slcOk Try.prog 25 4 = true := by kernel_rfl
theorem fld44_3 : fieldOk Try.prog 44 3 4 = true := by kernel_rfl
theorem one42 : oneOk Try.prog 42 = true := by kernel_rfl
theorem slc42 : slcOk Try.prog 42 1 = true := by kernel_rfl
theorem agg34 : aggOk Try.prog 34 4 = true := by kernel_rfl
theorem cal10 : callable Try.prog 10 = true := by kernel_rfl
theorem cal15 : callable Try.prog 15 = true := by kernel_rfl
theorem spK_borrow {P : Program} {f : FuncId} {args : Array Value} {Pre : World → Prop} {Sc : List (Nat × Obj)} {R R' : Value → List (Nat × Obj) → Prop} (h : SpK P f args Pre Sc R) (hr : ∀ v F', R v F' → ∃ F1, F'.Perm (F1 ++ Sc) ∧ R' v F1) :
    SpK P f args (fun w => Pre w ∧ Mem Sc w ∧ (Sc.map Prod.fst).Nodup) [] R' := by
  intro w hp _ _
  refine (h w hp.1 hp.2.1 hp.2.2).mono fun e w' hq => ?_
  cases e with
  | returned v =>
    obtain ⟨F', hR, hh0⟩ := hq
    obtain ⟨F1, hpm, hR'⟩ := hr v F' hR
    have hh := hh0.perm hpm
    have hnd := hh.nodup
    rw [List.map_append, List.nodup_append] at hnd
    refine ⟨F1, hR', ⟨⟨hh.frm.os, hh.frm.tape, hh.frm.output, hh.frm.size, fun b hb _ => ?_⟩, fun b o m => hh.mem b o (List.mem_append_left _ m), hnd.1, fun b o m => ?_⟩⟩
    · by_cases hm : b ∈ Sc.map Prod.fst
      · obtain ⟨⟨b', o⟩, hbo, rfl⟩ := List.mem_map.1 hm
        rw [hh.mem _ _ (List.mem_append_right _ hbo), hp.2.1 _ _ hbo]
      · exact hh.frm.block b hb hm
    · rcases hh.own b o (List.mem_append_left _ m) with h1 | h1
      · exact absurd rfl (hnd.2.2 b (List.mem_map.2 ⟨_, m, rfl⟩) b h1)
      · exact .inr h1
  | _ => exact hq
def lc (b : Nat) : List Value := [.int .u8 0, .int .u8 0, .string es, .slice (some ⟨b, 0, none⟩) 2 2]
theorem lc_len (b : Nat) : (lc b).length = 4 := rfl
/-- a search -/
structure SX where
  n : Nat
  vs : Nat
  body : List (Nat × Nat)
  oc : List Int
  sb : Nat
  bb : Nat
  ob : Nat
  ab : List Nat
  hs : ByteArray
  hv : Value
def SX.bl (X : SX) : List (Nat × Nat) := X.body
structure SIn (X : SX) (Z : List (Nat × Obj)) : Prop where
  s : (X.sb, C [.string X.hs, X.hv, .slice (some ⟨X.bb, 0, none⟩) X.n X.n, .int .i64 (X.vs : Int), .slice (some ⟨X.ob, 0, none⟩) X.vs X.vs] 44) ∈ Z
  b : (X.bb, C (fl lc X.ab) 34) ∈ Z
  a : ∀ (j b : Nat) (p : Nat × Nat), X.ab[j]? = some b → X.body[j]? = some p → (b, C (fl tc [(p.1 : Int), (p.2 : Int)]) 30) ∈ Z
  o : (X.ob, C (fl uI X.oc) 45) ∈ Z
  nl : X.body.length = X.n
  al : X.ab.length = X.n
  ol : X.oc.length = X.vs
  vb : ∀ (j : Nat) (p : Nat × Nat), X.body[j]? = some p → p.1 < X.vs ∧ p.2 < X.vs
  n64 : X.n ≤ 64
  v1000 : X.vs ≤ 900
theorem SIn.mono {X : SX} {Z Z' : List (Nat × Obj)} (h : SIn X Z) (hz : ∀ x, x ∈ Z → x ∈ Z') : SIn X Z' := ⟨hz _ h.s, hz _ h.b, fun j b p h1 h2 => hz _ (h.a j b p h1 h2), hz _ h.o, h.nl, h.al, h.ol, h.vb, h.n64, h.v1000⟩
/-- a state of the search -/
structure SB where
  pl : Int
  num : List Int
  nx : Int
  nb : Nat
  nc : Nat
  jn : List Value
def SB.cells (s : SB) : List Value := [.int .u64 s.pl, .slice (some ⟨s.nb, 0, none⟩) s.num.length s.nc, .int .i64 s.nx]
def SB.blk (s : SB) : Nat × Obj := (s.nb, C (fl iI s.num ++ s.jn) 3)
theorem sb_len (s : SB) : s.cells.length = 3 := rfl
theorem sb_one (s : SB) : s.cells.all (·.oneCell') = true := rfl
structure SB.ok (s : SB) (vs : Nat) : Prop where
  len : s.num.length = vs
  nx : 0 ≤ s.nx ∧ s.nx ≤ 900
  lt : ∀ (j : Nat) (x : Int), s.num[j]? = some x → x < s.nx
/-- a state that lies somewhere -/
structure StA (Z : List (Nat × Obj)) (s : SB) (fb so : Nat) (fc : List Value) (T : TypeId) : Prop where
  f : (fb, C fc T) ∈ Z
  h0 : fc[so + 0]? = some (.int .u64 s.pl)
  h1 : fc[so + 1]? = some (.slice (some ⟨s.nb, 0, none⟩) s.num.length s.nc)
  h2 : fc[so + 2]? = some (.int .i64 s.nx)
  nb : s.blk ∈ Z
  ne : s.nb ≠ fb
def sh64 (j : Nat) : Int := IntKind.u64.wrap (1 * 2 ^ (min (j : Int).toNat IntKind.u64.bits))
def othP (pl : Int) (j : Nat) : Int := bitsOf .xor .u64 18446744073709551615 (bitsOf .or .u64 pl (sh64 j))
def badP (oc num : List Int) (oth : Int) (v : Nat) : Bool := match num[v]?, oc[v]? with | some x, some o => decide (x = -1) && decide (bitsOf .and .u64 o oth ≠ 0) | _, _ => false
/-- no unnumbered variable of the literal lies in another unplaced one -/
def prvP (oc num : List Int) (pl : Int) (j : Nat) (p : Nat × Nat) : Bool := !(badP oc num (othP pl j) p.1) && !(badP oc num (othP pl j) p.2)
theorem badP_eq {oc num : List Int} {oth x o : Int} {v : Nat} (h1 : num[v]? = some x) (h2 : oc[v]? = some o) : badP oc num oth v = (decide (x = -1) && decide (bitsOf .and .u64 o oth ≠ 0)) := by unfold badP; rw [h1, h2]
theorem lc_at {X : SX} {j b : Nat} (h : X.ab[j]? = some b) : ((fl lc X.ab).drop (0 + j * 4)).take 4 = lc b := by
  have := fl_at lc_len h []
  rw [List.append_nil] at this; exact this
theorem lc_args {X : SX} {j b : Nat} (h : X.ab[j]? = some b) : (fl lc X.ab)[0 + j * 4 + 2 + 1]? = some (.slice (some ⟨b, 0, none⟩) 2 2) := by
  have h1 := lc_at h
  have h2 : (((fl lc X.ab).drop (0 + j * 4)).take 4)[3]? = some (.slice (some ⟨b, 0, none⟩) 2 2) := by rw [h1]; rfl
  rw [List.getElem?_take, if_pos (by decide), List.getElem?_drop] at h2
  exact h2
theorem uI_at {l : List Int} {i : Nat} {x : Int} (h : l[i]? = some x) : (fl uI l)[0 + i * 1]? = some (.int .u64 x) := by
  have := fl_get1 (f := uI) (g := .int .u64) (fun _ => rfl) h []
  rw [List.append_nil] at this; exact this
theorem tc2_at {p : Nat × Nat} {i : Nat} {v : Int} (h : [(p.1 : Int), (p.2 : Int)][i]? = some v) : ((fl tc [(p.1 : Int), (p.2 : Int)]).drop (0 + i * 4)).take 4 = tc v := by
  have := fl_at tc_len h []
  rw [List.append_nil] at this; exact this
theorem bad_no1 {oc num : List Int} {oth x o : Int} {v : Nat} (h : badP oc num oth v = (decide (x = -1) && decide (bitsOf .and .u64 o oth ≠ 0))) (hx : ¬ x = -1) : badP oc num oth v = false := by rw [h]; simp [hx]
theorem bad_no2 {oc num : List Int} {oth x o : Int} {v : Nat} (h : badP oc num oth v = (decide (x = -1) && decide (bitsOf .and .u64 o oth ≠ 0))) (hx : bitsOf .and .u64 o oth = 0) : badP oc num oth v = false := by rw [h]; simp [hx]
theorem bad_yes {oc num : List Int} {oth x o : Int} {v : Nat} (h : badP oc num oth v = (decide (x = -1) && decide (bitsOf .and .u64 o oth ≠ 0))) (h1 : x = -1) (h2 : ¬ bitsOf .and .u64 o oth = 0) : badP oc num oth v = true := by rw [h]; simp [h1, h2]
theorem two_at {p : Nat × Nat} {i v : Nat} (h : [(p.1 : Int), (p.2 : Int)][i]? = some (v : Int)) (hi : i < 2) : (i = 0 ∧ v = p.1) ∨ (i = 1 ∧ v = p.2) := by
  rcases (show i = 0 ∨ i = 1 by omega) with rfl | rfl
  · left; refine ⟨rfl, ?_⟩; simp at h; omega
  · right; refine ⟨rfl, ?_⟩; simp at h; omega
theorem prv_next {oc num : List Int} {oth : Int} {p : Nat × Nat} {i v : Nat} (hi : i < 2) (hv : [(p.1 : Int), (p.2 : Int)][i]? = some (v : Int)) (hi1 : 1 ≤ i → badP oc num oth p.1 = false) (hb : badP oc num oth v = false) : (1 ≤ i + 1 → badP oc num oth p.1 = false) ∧ (2 ≤ i + 1 → badP oc num oth p.2 = false) := by
  rcases two_at hv hi with ⟨rfl, rfl⟩ | ⟨rfl, rfl⟩
  · exact ⟨fun _ => hb, fun h => by omega⟩
  · exact ⟨fun _ => hi1 (by omega), fun _ => hb⟩
theorem prv_false {oc num : List Int} {pl : Int} {j : Nat} {p : Nat × Nat} {i v : Nat} (hi : i < 2) (hv : [(p.1 : Int), (p.2 : Int)][i]? = some (v : Int)) (hb : badP oc num (othP pl j) v = true) : prvP oc num pl j p = false := by
  unfold prvP
  rcases two_at hv hi with ⟨rfl, rfl⟩ | ⟨rfl, rfl⟩
  · rw [hb]; rfl
  · rw [hb]; simp


set_option maxHeartbeats 4000000 in
theorem private_spec (X : SX) (Z : List (Nat × Obj)) (hX : SIn X Z) (s : SB) (fb so : Nat) (fc : List Value) (T : TypeId) (hS : StA Z s fb so fc T) (hok : s.ok X.vs) (j : Nat) (p : Nat × Nat) (hp : X.body[j]? = some p) : SpK Try.prog 15 #[.pointer (some ⟨X.sb, 0, none⟩), .pointer (some ⟨fb, so, none⟩), .int .i64 (j : Int)] (Mem Z) [] (fun u F' => u = .bool (prvP X.oc s.num s.pl j p) ∧ F' = []) := by
  refine f_enter (args := [.pointer (some ⟨X.sb, 0, none⟩), .pointer (some ⟨fb, so, none⟩), .int .i64 (j : Int)]) Try.func15 rfl Try.ntmps15 rfl ?_
  intro w0 w a hpre hl hh
  have hms := hpre _ _ hX.s; have hmb := hpre _ _ hX.b; have hmo := hpre _ _ hX.o; have hmf := hpre _ _ hS.f; have hmn := hpre _ _ hS.nb
  have hs0 := hS.h0; have hs1 := hS.h1; have hs2 := hS.h2
  have h64 := hX.n64; have h900 := hX.v1000; have hnl := hok.len
  have hjn : j < X.n := by have := (List.getElem?_eq_some_iff.1 hp).1; rw [hX.nl] at this; exact this
  obtain ⟨b, hb⟩ : ∃ b, X.ab[j]? = some b := ⟨_, List.getElem?_eq_getElem (by rw [hX.al]; exact hjn)⟩
  have hma := hpre _ _ (hX.a j b p hb hp)
  obtain ⟨hv1, hv2⟩ := hX.vb j p hp
  simp only [slotsFrom, Nat.reduceAdd] at hl
  refine c_seq ?_
  refine c_region ?_
  refine wl (wl_val hl rfl trivial (r_assign hl rfl) ?_)
  clear hl a; intro a hl
  refine w_nil ?_
  have hl2 := hl.add (t := 0) (hl.add (t := 1) (hl.add (t := 2) (hl.nil) rfl) rfl) rfl; clear hl; have hl := hl2; clear hl2
  refine then_normal ?_
  refine c_seq ?_
  refine c_region ?_
  refine wl (wl_val hl rfl trivial (r_move hl rfl) ?_)
  clear hl a; intro a hl
  refine wl (wl_val hl rfl trivial (r_nilCheck hl rfl) ?_)
  clear hl a; intro a hl
  refine wl (wl_val hl rfl trivial (r_field hl rfl fld47_0) ?_)
  clear hl a; intro a hl
  first | refine wl (w_load hl hh rfl trivial one45 rfl (by repeat (first | exact find_head | apply find_tail)) (by first | rfl) ?_) | refine wl (w_loadR hl hh rfl trivial one45 rfl hms (by simp) rfl ?_) | refine wl (w_loadR hl hh rfl trivial one45 rfl hmf (by simp) hs0 ?_) | refine wl (w_loadR hl hh rfl trivial one45 rfl hmf (by simp) hs1 ?_) | refine wl (w_loadR hl hh rfl trivial one45 rfl hmf (by simp) hs2 ?_) | refine wl (w_loadR hl hh rfl trivial one45 rfl hmb (by simp) (lc_args hb) ?_)
  clear hl a; intro a hl
  refine wl (wl_val hl rfl trivial (r_move hl rfl) ?_)
  clear hl a; intro a hl
  first | refine wl (wl_val hl rfl trivial (r_conv hl rfl Try.underlying3 Try.underlying58 (by simp only [Fits]; omega)) ?_) | refine wl (wl_val hl rfl trivial (r_convW hl rfl Try.underlying3 Try.underlying58) ?_)
  clear hl a; intro a hl
  refine wl (wl_val hl rfl trivial (r_shl hl rfl rfl (by omega)) ?_)
  clear hl a; intro a hl
  refine wl (wl_val hl rfl trivial (r_or hl rfl rfl) ?_)
  clear hl a; intro a hl
  refine wl (wl_val hl rfl trivial (r_xorI hl rfl) ?_)
  clear hl a; intro a hl
  rw [show bitsOf .xor .u64 18446744073709551615 (bitsOf .or .u64 s.pl (IntKind.u64.wrap (1 * 2 ^ (min (j : Int).toNat IntKind.u64.bits)))) = othP s.pl j from rfl] at hl
  refine wl (wl_val hl rfl trivial (r_assign hl rfl) ?_)
  clear hl a; intro a hl
  refine w_nil ?_
  have hl2 := hl.add (t := 0) (hl.add (t := 1) (hl.add (t := 2) (hl.add (t := 7) (hl.nil) rfl) rfl) rfl) rfl; clear hl; have hl := hl2; clear hl2
  refine then_normal ?_
  refine c_seq ?_
  refine c_seq ?_
  refine c_region ?_
  refine wl (wl_val hl rfl trivial (r_move hl rfl) ?_)
  clear hl a; intro a hl
  refine wl (wl_val hl rfl trivial (r_nilCheck hl rfl) ?_)
  clear hl a; intro a hl
  refine wl (wl_val hl rfl trivial (r_field hl rfl fld44_1) ?_)
  clear hl a; intro a hl
  first | refine wl (w_load hl hh rfl trivial one25 rfl (by repeat (first | exact find_head | apply find_tail)) (by first | rfl) ?_) | refine wl (w_loadR hl hh rfl trivial one25 rfl hms (by simp) rfl ?_) | refine wl (w_loadR hl hh rfl trivial one25 rfl hmf (by simp) hs0 ?_) | refine wl (w_loadR hl hh rfl trivial one25 rfl hmf (by simp) hs1 ?_) | refine wl (w_loadR hl hh rfl trivial one25 rfl hmf (by simp) hs2 ?_) | refine wl (w_loadR hl hh rfl trivial one25 rfl hmb (by simp) (lc_args hb) ?_)
  clear hl a; intro a hl
  refine wl (wl_val hl rfl trivial (r_move hl rfl) ?_)
  clear hl a; intro a hl
  refine wl (wl_val hl rfl trivial (r_indexS hl rfl rfl slc25 (by omega) (by omega) (by first | (simp only [Int.reduceToNat]; rfl) | exact toNat_add1 _ | exact toNat_add2 _ _ | exact toNat_emod _ _ | exact Int.toNat_natCast _ | rfl)) ?_)
  clear hl a; intro a hl
  refine wl (wl_val hl rfl trivial (r_field hl rfl fld34_2) ?_)
  clear hl a; intro a hl
  refine wl (wl_val hl rfl trivial (r_field hl rfl fld24_1) ?_)
  clear hl a; intro a hl
  first | refine wl (w_load hl hh rfl trivial one22 rfl (by repeat (first | exact find_head | apply find_tail)) (by first | rfl) ?_) | refine wl (w_loadR hl hh rfl trivial one22 rfl hms (by simp) rfl ?_) | refine wl (w_loadR hl hh rfl trivial one22 rfl hmf (by simp) hs0 ?_) | refine wl (w_loadR hl hh rfl trivial one22 rfl hmf (by simp) hs1 ?_) | refine wl (w_loadR hl hh rfl trivial one22 rfl hmf (by simp) hs2 ?_) | refine wl (w_loadR hl hh rfl trivial one22 rfl hmb (by simp) (lc_args hb) ?_)
  clear hl a; intro a hl
  refine wl (wl_val hl rfl trivial (r_lenS hl rfl slc22) ?_)
  clear hl a; intro a hl
  refine wl (wl_val hl rfl trivial (r_move hl rfl) ?_)
  clear hl a; intro a hl
  refine w_nil ?_
  have hl2 := hl.add (t := 0) (hl.add (t := 1) (hl.add (t := 7) (hl.add (t := 27) (hl.add (t := 28) (hl.add (t := 29) (hl.nil) rfl) rfl) rfl) rfl) rfl) rfl; clear hl; have hl := hl2; clear hl2
  refine then_normal ?_
  refine wp_block ?_
  obtain ⟨KS0, hKS0, hk⟩ := (hl.add (t := 0) (hl.add (t := 1) (hl.add (t := 7) (hl.add (t := 27) (hl.add (t := 28) (hl.nil) rfl) rfl) rfl) rfl) rfl).name
  obtain ⟨HS0, hHS0, hh2⟩ := hh.name (keeps_nil)
  refine c_loop (α := Nat) (fun i => 2 - i) (fun i a w => (i ≤ 2 ∧ (1 ≤ i → badP X.oc s.num (othP s.pl j) p.1 = false) ∧ (2 ≤ i → badP X.oc s.num (othP s.pl j) p.2 = false)) ∧ Sl 61 ([(29, .int .i64 (i : Int))] ++ KS0) a ∧ Has _ w0 ([] ++ HS0) w) 0 ⟨⟨by omega, fun h => absurd h (by omega), fun h => absurd h (by omega)⟩, hl.addE (t := 29) (hk) rfl (by first | rfl), hh2⟩ ?_
  clear hk hh2 hl hh a w
  intro i a w hI
  obtain ⟨⟨hi, hi1, hi2⟩, hl, hh⟩ := hI
  subst hKS0; subst hHS0
  simp only [List.cons_append, List.nil_append, List.append_nil] at hl hh
  refine c_seq ?_
  refine c_region ?_
  refine wl (wl_val hl rfl trivial (r_lss hl rfl rfl) ?_)
  clear hl a; intro a hl
  refine w_nil ?_
  have hl2 := hl.add (t := 0) (hl.add (t := 1) (hl.add (t := 7) (hl.add (t := 27) (hl.add (t := 28) (hl.add (t := 29) (hl.add (t := 30) (hl.nil) rfl) rfl) rfl) rfl) rfl) rfl) rfl; clear hl; have hl := hl2; clear hl2
  refine then_normal ?_
  refine c_seq ?_
  refine c_cond hl rfl ?_ ?_
  · intro hc0
    try simp only [decide_eq_true_eq, decide_eq_false_iff_not, Bool.not_eq_true', Bool.not_eq_false', Bool.not_eq_true, Bool.not_eq_false, Bool.and_eq_true, Bool.or_eq_true, Bool.and_eq_false_iff, Bool.or_eq_false_iff, Bool.not_not, ne_eq, Int.not_lt, Int.not_le, Decidable.not_not, beq_iff_eq, bne_iff_ne] at hc0
    obtain ⟨v, hv, hvl⟩ : ∃ v : Nat, [(p.1 : Int), (p.2 : Int)][i]? = some (v : Int) ∧ v < X.vs := by rcases (show i = 0 ∨ i = 1 by omega) with rfl | rfl; exact ⟨p.1, rfl, hv1⟩; exact ⟨p.2, rfl, hv2⟩
    have hrd := tc2_at hv
    simp only [tc] at hrd
    obtain ⟨z, hz⟩ : ∃ z, s.num[v]? = some z := ⟨_, List.getElem?_eq_getElem (by omega)⟩
    obtain ⟨oo, ho⟩ : ∃ z, X.oc[v]? = some z := ⟨_, List.getElem?_eq_getElem (by rw [hX.ol]; exact hvl)⟩
    have hbe := badP_eq (oth := othP s.pl j) hz ho
    refine wp_skip ?_
    refine then_normal ?_
    refine c_seq ?_
    refine wp_block ?_
    refine c_seq ?_
    refine c_region ?_
    refine wl (wl_val hl rfl trivial (r_indexS hl rfl rfl slc22 (by omega) (by omega) (by first | (simp only [Int.reduceToNat]; rfl) | exact toNat_add1 _ | exact toNat_add2 _ _ | exact toNat_emod _ _ | exact Int.toNat_natCast _ | rfl)) ?_)
    clear hl a; intro a hl
    first | refine wl (w_loadA hl hh rfl trivial agg30 rfl (by repeat (first | exact find_head | apply find_tail)) (by first | (simp only [List.getElem?_cons_zero, List.getElem?_cons_succ, Value.cells, List.take_zero, List.take_succ_cons, List.take_nil, List.drop_zero, List.drop_succ_cons, List.drop_nil, List.length_cons, List.length_nil, List.cons_append, List.nil_append, List.append_nil, Nat.zero_add, Nat.add_zero, Nat.reduceAdd, Nat.reduceBEq, Nat.reduceEqDiff, Nat.ble, BEq.rfl, Bool.and_true, Bool.and_self, cond_true, beq_self_eq_true]; rfl)) (by first | rfl | (simp; done)) ?_) | refine wl (w_loadRA hl hh rfl trivial agg30 rfl hma (by simp) hrd rfl ?_)
    clear hl a; intro a hl
    refine wl (w_alloc hl hh rfl trivial zero30 rfl ?_)
    clear hl hh a w; intro k9 a w hl hh
    refine wl (w_storeA hl hh trivial agg30 rfl rfl (by repeat (first | exact find_head | apply find_tail)) (by first | rfl | (simp; done)) (by first | (simp; done) | (simp; omega)) (by first | rfl | (simp; done)) (by first | (simp only [setL, List.getElem?_cons_zero, List.getElem?_cons_succ, Value.cells, List.take_zero, List.take_succ_cons, List.take_nil, List.drop_zero, List.drop_succ_cons, List.drop_nil, List.length_cons, List.length_nil, List.cons_append, List.nil_append, List.append_nil, Nat.zero_add, Nat.add_zero, Nat.reduceAdd, Nat.reduceBEq, Nat.reduceEqDiff, Nat.ble, BEq.rfl, Bool.and_true, Bool.and_self, cond_true, beq_self_eq_true]; rfl)) ?_)
    clear hh w; intro w hh
    refine w_nil ?_
    have hl2 := hl.add (t := 0) (hl.add (t := 1) (hl.add (t := 7) (hl.add (t := 9) (hl.add (t := 27) (hl.add (t := 28) (hl.add (t := 29) (hl.nil) rfl) rfl) rfl) rfl) rfl) rfl) rfl; clear hl; have hl := hl2; clear hl2
    refine then_normal ?_
    refine c_seq ?_
    refine c_draw [(fb, C fc T), s.blk, (X.sb, C [.string X.hs, X.hv, .slice (some ⟨X.bb, 0, none⟩) X.n X.n, .int .i64 (X.vs : Int), .slice (some ⟨X.ob, 0, none⟩) X.vs X.vs] 44), (X.ob, C (fl uI X.oc) 45), (k9, C [.int .u8 0, .int .i64 (v : Int), .int .i64 0, .string ⟨#[]⟩] 30)] [24, 25, 26] mixed hh ?_
    clear hh w; intro w hh
    have hM : Mem [(fb, C fc T), s.blk, (X.sb, C [.string X.hs, X.hv, .slice (some ⟨X.bb, 0, none⟩) X.n X.n, .int .i64 (X.vs : Int), .slice (some ⟨X.ob, 0, none⟩) X.vs X.vs] 44), (X.ob, C (fl uI X.oc) 45), (k9, C [.int .u8 0, .int .i64 (v : Int), .int .i64 0, .string ⟨#[]⟩] 30)] w := (by repeat (first | exact Mem.nil | refine Mem.consR hh (by assumption) (by simp) ?_ | refine Mem.cons hh.mem (by repeat (first | exact find_head | apply find_tail)) ?_))
    refine d_take (i := 0) hl rfl (by kernel_rfl) (by kernel_rfl) (by kernel_rfl) (by kernel_rfl) (by kernel_rfl) rfl trivial (fun _ _ _ h => h) hM (fun w hC => r_field hl rfl fld30_0) rfl ?_
    clear hl a; intro a hl
    refine d_take (i := 1) hl rfl (by kernel_rfl) (by kernel_rfl) (by kernel_rfl) (by kernel_rfl) (by kernel_rfl) rfl trivial (fun _ _ _ h => h) hM (fun w hC => r_loadC hl rfl one28 hC (by repeat (first | exact find_head | apply find_tail)) (by first | rfl)) rfl ?_
    clear hl a; intro a hl
    refine d_take (i := 2) hl rfl (by kernel_rfl) (by kernel_rfl) (by kernel_rfl) (by kernel_rfl) (by kernel_rfl) rfl trivial (fun _ _ _ h => h) hM (fun w hC => r_eql hl rfl rfl) rfl ?_
    clear hl a; intro a hl
    refine d_take (i := 3) hl rfl (by kernel_rfl) (by kernel_rfl) (by kernel_rfl) (by kernel_rfl) (by kernel_rfl) rfl trivial (fun _ _ _ h => h) hM (fun w hC => r_move hl rfl) rfl ?_
    clear hl a; intro a hl
    refine sl_split (t := 36) hl rfl ?_ ?_
    · intro hg1; clear hl; intro hl
      try simp only [decide_eq_true_eq, decide_eq_false_iff_not, Bool.not_eq_true', Bool.not_eq_false', Bool.not_eq_true, Bool.not_eq_false, Bool.and_eq_true, Bool.or_eq_true, Bool.and_eq_false_iff, Bool.or_eq_false_iff, Bool.not_not, ne_eq, Int.not_lt, Int.not_le, Decidable.not_not, beq_iff_eq, bne_iff_ne] at hg1
      refine d_take (i := 4) hl rfl (by kernel_rfl) (by kernel_rfl) (by kernel_rfl) (by kernel_rfl) (by kernel_rfl) rfl ⟨_, _, rfl, rfl, rfl⟩ (fun _ _ _ h => h) hM (fun w hC => r_move hl rfl) rfl ?_
      clear hl a; intro a hl
      refine d_take (i := 5) hl rfl (by kernel_rfl) (by kernel_rfl) (by kernel_rfl) (by kernel_rfl) (by kernel_rfl) rfl ⟨_, _, rfl, rfl, rfl⟩ (fun _ _ _ h => h) hM (fun w hC => r_nilCheck hl rfl) rfl ?_
      clear hl a; intro a hl
      refine d_take (i := 6) hl rfl (by kernel_rfl) (by kernel_rfl) (by kernel_rfl) (by kernel_rfl) (by kernel_rfl) rfl ⟨_, _, rfl, rfl, rfl⟩ (fun _ _ _ h => h) hM (fun w hC => r_field hl rfl fld47_1) rfl ?_
      clear hl a; intro a hl
      refine d_take (i := 7) hl rfl (by kernel_rfl) (by kernel_rfl) (by kernel_rfl) (by kernel_rfl) (by kernel_rfl) rfl ⟨_, _, rfl, rfl, rfl⟩ (fun _ _ _ h => h) hM (fun w hC => r_loadC hl rfl one41 hC (by repeat (first | exact find_head | apply find_tail)) (by exact hs1)) rfl ?_
      clear hl a; intro a hl
      refine d_take (i := 8) hl rfl (by kernel_rfl) (by kernel_rfl) (by kernel_rfl) (by kernel_rfl) (by kernel_rfl) rfl ⟨_, _, rfl, rfl, rfl⟩ (fun _ _ _ h => h) hM (fun w hC => r_field hl rfl fld30_1) rfl ?_
      clear hl a; intro a hl
      refine d_take (i := 9) hl rfl (by kernel_rfl) (by kernel_rfl) (by kernel_rfl) (by kernel_rfl) (by kernel_rfl) rfl ⟨_, _, rfl, rfl, rfl⟩ (fun _ _ _ h => h) hM (fun w hC => r_loadC hl rfl one3 hC (by repeat (first | exact find_head | apply find_tail)) (by first | rfl)) rfl ?_
      clear hl a; intro a hl
      refine d_take (i := 10) hl rfl (by kernel_rfl) (by kernel_rfl) (by kernel_rfl) (by kernel_rfl) (by kernel_rfl) rfl ⟨_, _, rfl, rfl, rfl⟩ (fun _ _ _ h => h) hM (fun w hC => r_indexS hl rfl rfl slc41 (by omega) (by omega) (by first | (simp only [Int.reduceToNat]; rfl) | exact toNat_add1 _ | exact toNat_add2 _ _ | exact toNat_emod _ _ | exact Int.toNat_natCast _ | rfl)) rfl ?_
      clear hl a; intro a hl
      refine d_take (i := 11) hl rfl (by kernel_rfl) (by kernel_rfl) (by kernel_rfl) (by kernel_rfl) (by kernel_rfl) rfl ⟨_, _, rfl, rfl, rfl⟩ (fun _ _ _ h => h) hM (fun w hC => r_loadC hl rfl one3 hC (by repeat (first | exact find_head | apply find_tail)) (by exact fl_get1 (f := iI) (g := .int .i64) (fun _ => rfl) hz s.jn)) rfl ?_
      clear hl a; intro a hl
      refine d_take (i := 12) hl rfl (by kernel_rfl) (by kernel_rfl) (by kernel_rfl) (by kernel_rfl) (by kernel_rfl) rfl ⟨_, _, rfl, rfl, rfl⟩ (fun _ _ _ h => h) hM (fun w hC => r_eql hl rfl rfl) rfl ?_
      clear hl a; intro a hl
      refine d_take (i := 13) hl rfl (by kernel_rfl) (by kernel_rfl) (by kernel_rfl) (by kernel_rfl) (by kernel_rfl) rfl trivial (fun _ _ _ h => h) hM (fun w hC => r_pickT hl rfl rfl) rfl ?_
      clear hl a; intro a hl
      refine d_take (i := 14) hl rfl (by kernel_rfl) (by kernel_rfl) (by kernel_rfl) (by kernel_rfl) (by kernel_rfl) rfl trivial (fun _ _ _ h => h) hM (fun w hC => r_move hl rfl) rfl ?_
      clear hl a; intro a hl
      refine sl_split (t := 47) hl rfl ?_ ?_
      · intro hg2; clear hl; intro hl
        try simp only [decide_eq_true_eq, decide_eq_false_iff_not, Bool.not_eq_true', Bool.not_eq_false', Bool.not_eq_true, Bool.not_eq_false, Bool.and_eq_true, Bool.or_eq_true, Bool.and_eq_false_iff, Bool.or_eq_false_iff, Bool.not_not, ne_eq, Int.not_lt, Int.not_le, Decidable.not_not, beq_iff_eq, bne_iff_ne] at hg2
        refine d_take (i := 15) hl rfl (by kernel_rfl) (by kernel_rfl) (by kernel_rfl) (by kernel_rfl) (by kernel_rfl) rfl ⟨_, _, rfl, rfl, rfl⟩ (fun _ _ _ h => h) hM (fun w hC => r_move hl rfl) rfl ?_
        clear hl a; intro a hl
        refine d_take (i := 16) hl rfl (by kernel_rfl) (by kernel_rfl) (by kernel_rfl) (by kernel_rfl) (by kernel_rfl) rfl ⟨_, _, rfl, rfl, rfl⟩ (fun _ _ _ h => h) hM (fun w hC => r_nilCheck hl rfl) rfl ?_
        clear hl a; intro a hl
        refine d_take (i := 17) hl rfl (by kernel_rfl) (by kernel_rfl) (by kernel_rfl) (by kernel_rfl) (by kernel_rfl) rfl ⟨_, _, rfl, rfl, rfl⟩ (fun _ _ _ h => h) hM (fun w hC => r_field hl rfl fld44_3) rfl ?_
        clear hl a; intro a hl
        refine d_take (i := 18) hl rfl (by kernel_rfl) (by kernel_rfl) (by kernel_rfl) (by kernel_rfl) (by kernel_rfl) rfl ⟨_, _, rfl, rfl, rfl⟩ (fun _ _ _ h => h) hM (fun w hC => r_loadC hl rfl one42 hC (by repeat (first | exact find_head | apply find_tail)) (by rfl)) rfl ?_
        clear hl a; intro a hl
        refine d_take (i := 19) hl rfl (by kernel_rfl) (by kernel_rfl) (by kernel_rfl) (by kernel_rfl) (by kernel_rfl) rfl ⟨_, _, rfl, rfl, rfl⟩ (fun _ _ _ h => h) hM (fun w hC => r_field hl rfl fld30_1) rfl ?_
        clear hl a; intro a hl
        refine d_take (i := 20) hl rfl (by kernel_rfl) (by kernel_rfl) (by kernel_rfl) (by kernel_rfl) (by kernel_rfl) rfl ⟨_, _, rfl, rfl, rfl⟩ (fun _ _ _ h => h) hM (fun w hC => r_loadC hl rfl one3 hC (by repeat (first | exact find_head | apply find_tail)) (by first | rfl)) rfl ?_
        clear hl a; intro a hl
        refine d_take (i := 21) hl rfl (by kernel_rfl) (by kernel_rfl) (by kernel_rfl) (by kernel_rfl) (by kernel_rfl) rfl ⟨_, _, rfl, rfl, rfl⟩ (fun _ _ _ h => h) hM (fun w hC => r_indexS hl rfl rfl slc42 (by omega) (by omega) (by first | (simp only [Int.reduceToNat]; rfl) | exact toNat_add1 _ | exact toNat_add2 _ _ | exact toNat_emod _ _ | exact Int.toNat_natCast _ | rfl)) rfl ?_
        clear hl a; intro a hl
        refine d_take (i := 22) hl rfl (by kernel_rfl) (by kernel_rfl) (by kernel_rfl) (by kernel_rfl) (by kernel_rfl) rfl ⟨_, _, rfl, rfl, rfl⟩ (fun _ _ _ h => h) hM (fun w hC => r_loadC hl rfl one45 hC (by repeat (first | exact find_head | apply find_tail)) (by exact uI_at ho)) rfl ?_
        clear hl a; intro a hl
        refine d_take (i := 23) hl rfl (by kernel_rfl) (by kernel_rfl) (by kernel_rfl) (by kernel_rfl) (by kernel_rfl) rfl ⟨_, _, rfl, rfl, rfl⟩ (fun _ _ _ h => h) hM (fun w hC => r_move hl rfl) rfl ?_
        clear hl a; intro a hl
        refine d_takeL (i := 24) hl rfl (by kernel_rfl) (by kernel_rfl) (by kernel_rfl) (by kernel_rfl) (by kernel_rfl) rfl ⟨_, _, rfl, rfl, rfl⟩ (fun _ _ _ h => h) (fun w => r_and hl rfl rfl) rfl ?_
        clear hl a; intro a hl
        refine d_takeL (i := 25) hl rfl (by kernel_rfl) (by kernel_rfl) (by kernel_rfl) (by kernel_rfl) (by kernel_rfl) rfl ⟨_, _, rfl, rfl, rfl⟩ (fun _ _ _ h => h) (fun w => r_neq hl rfl rfl) rfl ?_
        clear hl a; intro a hl
        refine d_takeL (i := 26) hl rfl (by kernel_rfl) (by kernel_rfl) (by kernel_rfl) (by kernel_rfl) (by kernel_rfl) rfl trivial (fun _ _ _ h => h) (fun w => r_pickT hl rfl rfl) rfl ?_
        clear hl a; intro a hl
        refine d_done (by kernel_rfl) ?_
        try clear hM
        have hl2 := hl.add (t := 0) (hl.add (t := 1) (hl.add (t := 7) (hl.add (t := 27) (hl.add (t := 28) (hl.add (t := 29) (hl.add (t := 59) (hl.nil) rfl) rfl) rfl) rfl) rfl) rfl) rfl; clear hl; have hl := hl2; clear hl2
        refine then_normal ?_
        refine c_cond hl rfl ?_ ?_
        · intro hc1
          try simp only [decide_eq_true_eq, decide_eq_false_iff_not, Bool.not_eq_true', Bool.not_eq_false', Bool.not_eq_true, Bool.not_eq_false, Bool.and_eq_true, Bool.or_eq_true, Bool.and_eq_false_iff, Bool.or_eq_false_iff, Bool.not_not, ne_eq, Int.not_lt, Int.not_le, Decidable.not_not, beq_iff_eq, bne_iff_ne] at hc1
          refine c_seq ?_
          refine c_region ?_
          refine wl (wl_val hl rfl trivial (r_assign hl rfl) ?_)
          clear hl a; intro a hl
          refine w_nil ?_
          have hl2 := hl.add (t := 6) (hl.nil) rfl; clear hl; have hl := hl2; clear hl2
          refine then_normal ?_
          refine wp_ret ?_
          refine blk_ret ?_
          refine then_ret ?_
          refine then_ret ?_
          refine blk_ret ?_
          refine then_ret ?_
          refine f_ret1 (F' := []) hl hh rfl rfl (by repeat (first | exact keeps_nil | apply keeps_cons (by repeat (first | exact find_head | apply find_tail)) (by first  | rfl) | exact keeps_self | apply keeps_mv)) ?_
          exact ⟨congrArg Value.bool (prv_false (by omega) hv (bad_yes hbe (by assumption) (by assumption))).symm, rfl⟩
        · intro hc1
          try simp only [decide_eq_true_eq, decide_eq_false_iff_not, Bool.not_eq_true', Bool.not_eq_false', Bool.not_eq_true, Bool.not_eq_false, Bool.and_eq_true, Bool.or_eq_true, Bool.and_eq_false_iff, Bool.or_eq_false_iff, Bool.not_not, ne_eq, Int.not_lt, Int.not_le, Decidable.not_not, beq_iff_eq, bne_iff_ne] at hc1
          refine wp_skip ?_
          refine blk_normal ?_
          refine then_normal ?_
          refine c_region ?_
          first | refine wl (wl_val hl rfl trivial (r_add hl rfl rfl (by simp only [Fits]; omega)) ?_) | refine wl (wl_val hl rfl trivial (r_addW hl rfl rfl) ?_)
          clear hl a; intro a hl
          refine wl (wl_val hl rfl trivial (r_move hl rfl) ?_)
          clear hl a; intro a hl
          refine w_nil ?_
          have hl2 := hl.add (t := 0) (hl.add (t := 1) (hl.add (t := 7) (hl.add (t := 27) (hl.add (t := 28) (hl.add (t := 29) (hl.nil) rfl) rfl) rfl) rfl) rfl) rfl; clear hl; have hl := hl2; clear hl2
          refine then_normal ?_
          refine ⟨i + 1, (by omega), (by have hbf : badP X.oc s.num (othP s.pl j) v = false := (by first | exact bad_no1 hbe (by assumption) | exact bad_no2 hbe (by assumption)); exact ⟨by omega, (prv_next (by omega) hv hi1 hbf).1, (prv_next (by omega) hv hi1 hbf).2⟩), hl.addE (t := 29) (hl.addE (t := 0) (hl.addE (t := 1) (hl.addE (t := 7) (hl.addE (t := 27) (hl.addE (t := 28) (hl.nil) rfl (by first | rfl | rfl)) rfl (by first | rfl | rfl)) rfl (by first | rfl | rfl)) rfl (by first | rfl | rfl)) rfl (by first | rfl | rfl)) rfl (by first | rfl | rfl), hh.keep (by repeat (first | exact keeps_nil | apply keeps_cons (by repeat (first | exact find_head | apply find_tail)) (by first  | rfl) | exact keeps_self | apply keeps_mv))⟩
      · intro hg2; clear hl; intro hl
        try simp only [decide_eq_true_eq, decide_eq_false_iff_not, Bool.not_eq_true', Bool.not_eq_false', Bool.not_eq_true, Bool.not_eq_false, Bool.and_eq_true, Bool.or_eq_true, Bool.and_eq_false_iff, Bool.or_eq_false_iff, Bool.not_not, ne_eq, Int.not_lt, Int.not_le, Decidable.not_not, beq_iff_eq, bne_iff_ne] at hg2
        refine d_skip (i := 15) hl rfl (by kernel_rfl) (by kernel_rfl) (by kernel_rfl) (by kernel_rfl) (by kernel_rfl) rfl ⟨_, _, rfl, rfl, rfl⟩ (fun _ _ _ h => h) hM ?_
        clear hl a; intro a hl
        refine d_skip (i := 16) hl rfl (by kernel_rfl) (by kernel_rfl) (by kernel_rfl) (by kernel_rfl) (by kernel_rfl) rfl ⟨_, _, rfl, rfl, rfl⟩ (fun _ _ _ h => h) hM ?_
        clear hl a; intro a hl
        refine d_skip (i := 17) hl rfl (by kernel_rfl) (by kernel_rfl) (by kernel_rfl) (by kernel_rfl) (by kernel_rfl) rfl ⟨_, _, rfl, rfl, rfl⟩ (fun _ _ _ h => h) hM ?_
        clear hl a; intro a hl
        refine d_skip (i := 18) hl rfl (by kernel_rfl) (by kernel_rfl) (by kernel_rfl) (by kernel_rfl) (by kernel_rfl) rfl ⟨_, _, rfl, rfl, rfl⟩ (fun _ _ _ h => h) hM ?_
        clear hl a; intro a hl
        refine d_skip (i := 19) hl rfl (by kernel_rfl) (by kernel_rfl) (by kernel_rfl) (by kernel_rfl) (by kernel_rfl) rfl ⟨_, _, rfl, rfl, rfl⟩ (fun _ _ _ h => h) hM ?_
        clear hl a; intro a hl
        refine d_skip (i := 20) hl rfl (by kernel_rfl) (by kernel_rfl) (by kernel_rfl) (by kernel_rfl) (by kernel_rfl) rfl ⟨_, _, rfl, rfl, rfl⟩ (fun _ _ _ h => h) hM ?_
        clear hl a; intro a hl
        refine d_skip (i := 21) hl rfl (by kernel_rfl) (by kernel_rfl) (by kernel_rfl) (by kernel_rfl) (by kernel_rfl) rfl ⟨_, _, rfl, rfl, rfl⟩ (fun _ _ _ h => h) hM ?_
        clear hl a; intro a hl
        refine d_skip (i := 22) hl rfl (by kernel_rfl) (by kernel_rfl) (by kernel_rfl) (by kernel_rfl) (by kernel_rfl) rfl ⟨_, _, rfl, rfl, rfl⟩ (fun _ _ _ h => h) hM ?_
        clear hl a; intro a hl
        refine d_skip (i := 23) hl rfl (by kernel_rfl) (by kernel_rfl) (by kernel_rfl) (by kernel_rfl) (by kernel_rfl) rfl ⟨_, _, rfl, rfl, rfl⟩ (fun _ _ _ h => h) hM ?_
        clear hl a; intro a hl
        refine d_skip (i := 24) hl rfl (by kernel_rfl) (by kernel_rfl) (by kernel_rfl) (by kernel_rfl) (by kernel_rfl) rfl ⟨_, _, rfl, rfl, rfl⟩ (fun _ _ _ h => h) hM ?_
        clear hl a; intro a hl
        refine d_skip (i := 25) hl rfl (by kernel_rfl) (by kernel_rfl) (by kernel_rfl) (by kernel_rfl) (by kernel_rfl) rfl ⟨_, _, rfl, rfl, rfl⟩ (fun _ _ _ h => h) hM ?_
        clear hl a; intro a hl
        refine d_takeL (i := 26) hl rfl (by kernel_rfl) (by kernel_rfl) (by kernel_rfl) (by kernel_rfl) (by kernel_rfl) rfl trivial (fun _ _ _ h => h) (fun w => r_pickF hl rfl rfl) rfl ?_
        clear hl a; intro a hl
        refine d_done (by kernel_rfl) ?_
        try clear hM
        have hl2 := hl.add (t := 0) (hl.add (t := 1) (hl.add (t := 7) (hl.add (t := 27) (hl.add (t := 28) (hl.add (t := 29) (hl.add (t := 59) (hl.nil) rfl) rfl) rfl) rfl) rfl) rfl) rfl; clear hl; have hl := hl2; clear hl2
        refine then_normal ?_
        refine c_condF hl rfl ?_
        refine wp_skip ?_
        refine blk_normal ?_
        refine then_normal ?_
        refine c_region ?_
        first | refine wl (wl_val hl rfl trivial (r_add hl rfl rfl (by simp only [Fits]; omega)) ?_) | refine wl (wl_val hl rfl trivial (r_addW hl rfl rfl) ?_)
        clear hl a; intro a hl
        refine wl (wl_val hl rfl trivial (r_move hl rfl) ?_)
        clear hl a; intro a hl
        refine w_nil ?_
        have hl2 := hl.add (t := 0) (hl.add (t := 1) (hl.add (t := 7) (hl.add (t := 27) (hl.add (t := 28) (hl.add (t := 29) (hl.nil) rfl) rfl) rfl) rfl) rfl) rfl; clear hl; have hl := hl2; clear hl2
        refine then_normal ?_
        refine ⟨i + 1, (by omega), (by have hbf : badP X.oc s.num (othP s.pl j) v = false := (by first | exact bad_no1 hbe (by assumption) | exact bad_no2 hbe (by assumption)); exact ⟨by omega, (prv_next (by omega) hv hi1 hbf).1, (prv_next (by omega) hv hi1 hbf).2⟩), hl.addE (t := 29) (hl.addE (t := 0) (hl.addE (t := 1) (hl.addE (t := 7) (hl.addE (t := 27) (hl.addE (t := 28) (hl.nil) rfl (by first | rfl | rfl)) rfl (by first | rfl | rfl)) rfl (by first | rfl | rfl)) rfl (by first | rfl | rfl)) rfl (by first | rfl | rfl)) rfl (by first | rfl | rfl), hh.keep (by repeat (first | exact keeps_nil | apply keeps_cons (by repeat (first | exact find_head | apply find_tail)) (by first  | rfl) | exact keeps_self | apply keeps_mv))⟩
    · intro hg1; clear hl; intro hl
      try simp only [decide_eq_true_eq, decide_eq_false_iff_not, Bool.not_eq_true', Bool.not_eq_false', Bool.not_eq_true, Bool.not_eq_false, Bool.and_eq_true, Bool.or_eq_true, Bool.and_eq_false_iff, Bool.or_eq_false_iff, Bool.not_not, ne_eq, Int.not_lt, Int.not_le, Decidable.not_not, beq_iff_eq, bne_iff_ne] at hg1
      exfalso; first | contradiction | omega
  · intro hc0
    try simp only [decide_eq_true_eq, decide_eq_false_iff_not, Bool.not_eq_true', Bool.not_eq_false', Bool.not_eq_true, Bool.not_eq_false, Bool.and_eq_true, Bool.or_eq_true, Bool.and_eq_false_iff, Bool.or_eq_false_iff, Bool.not_not, ne_eq, Int.not_lt, Int.not_le, Decidable.not_not, beq_iff_eq, bne_iff_ne] at hc0
    refine wp_exit ?_
    refine then_exit ?_
    refine then_exit ?_
    refine blk_exit ?_
    refine then_normal ?_
    refine c_seq ?_
    refine c_region ?_
    refine wl (wl_val hl rfl trivial (r_assign hl rfl) ?_)
    clear hl a; intro a hl
    refine w_nil ?_
    have hl2 := hl.add (t := 6) (hl.nil) rfl; clear hl; have hl := hl2; clear hl2
    refine then_normal ?_
    refine wp_ret ?_
    refine f_ret1 (F' := []) hl hh rfl rfl (by repeat (first | exact keeps_nil | apply keeps_cons (by repeat (first | exact find_head | apply find_tail)) (by first  | rfl) | exact keeps_self | apply keeps_mv)) ?_
    exact ⟨congrArg Value.bool (by unfold prvP; rw [hi1 (by omega), hi2 (by omega)]; rfl), rfl⟩

def twinP (X : SX) (num : List Int) (pl : Int) (i j : Nat) (p q : Nat × Nat) : Bool := decide (cmp2 p.1 p.2 q.1 q.2 = 0) || (prvP X.oc num pl i p && prvP X.oc num pl j q)

set_option maxHeartbeats 4000000 in
theorem twins_spec (X : SX) (Z : List (Nat × Obj)) (hX : SIn X Z) (s : SB) (fb so : Nat) (fc : List Value) (T : TypeId) (hS : StA Z s fb so fc T) (hok : s.ok X.vs) (i j : Nat) (p q : Nat × Nat) (hp : X.body[i]? = some p) (hq : X.body[j]? = some q) : SpK Try.prog 11 #[.pointer (some ⟨X.sb, 0, none⟩), .pointer (some ⟨fb, so, none⟩), .int .i64 (i : Int), .int .i64 (j : Int)] (Mem Z) [] (fun u F' => u = .bool (twinP X s.num s.pl i j p q) ∧ F' = []) := by
  refine f_enter (args := [.pointer (some ⟨X.sb, 0, none⟩), .pointer (some ⟨fb, so, none⟩), .int .i64 (i : Int), .int .i64 (j : Int)]) Try.func11 rfl Try.ntmps11 rfl ?_
  intro w0 w a hpre hl hh
  have hms := hpre _ _ hX.s; have hmb := hpre _ _ hX.b; have hmo := hpre _ _ hX.o; have hmf := hpre _ _ hS.f; have hmn := hpre _ _ hS.nb
  have hs0 := hS.h0; have hs1 := hS.h1; have hs2 := hS.h2
  have h64 := hX.n64; have h900 := hX.v1000; have hnl := hok.len
  have hin : i < X.n := by have := (List.getElem?_eq_some_iff.1 hp).1; rw [hX.nl] at this; exact this
  have hjn : j < X.n := by have := (List.getElem?_eq_some_iff.1 hq).1; rw [hX.nl] at this; exact this
  obtain ⟨b1, hb1⟩ : ∃ b, X.ab[i]? = some b := ⟨_, List.getElem?_eq_getElem (by rw [hX.al]; exact hin)⟩
  obtain ⟨b2, hb2⟩ : ∃ b, X.ab[j]? = some b := ⟨_, List.getElem?_eq_getElem (by rw [hX.al]; exact hjn)⟩
  have hma := hpre _ _ (hX.a i b1 p hb1 hp)
  have hmc := hpre _ _ (hX.a j b2 q hb2 hq)
  have hq1 := lc_at hb1
  have hq2 := lc_at hb2
  simp only [lc] at hq1 hq2
  simp only [slotsFrom, Nat.reduceAdd] at hl
  refine c_seq ?_
  refine c_region ?_
  refine wl (wl_val hl rfl trivial (r_assign hl rfl) ?_)
  clear hl a; intro a hl
  refine w_nil ?_
  have hl2 := hl.add (t := 0) (hl.add (t := 1) (hl.add (t := 2) (hl.add (t := 3) (hl.nil) rfl) rfl) rfl) rfl; clear hl; have hl := hl2; clear hl2
  refine then_normal ?_
  refine c_seq ?_
  refine c_seq ?_
  refine c_draw [(X.sb, C [.string X.hs, X.hv, .slice (some ⟨X.bb, 0, none⟩) X.n X.n, .int .i64 (X.vs : Int), .slice (some ⟨X.ob, 0, none⟩) X.vs X.vs] 44), (X.bb, C (fl lc X.ab) 34)] [14, 15] mixed hh ?_
  clear hh w; intro w hh
  have hM : Mem [(X.sb, C [.string X.hs, X.hv, .slice (some ⟨X.bb, 0, none⟩) X.n X.n, .int .i64 (X.vs : Int), .slice (some ⟨X.ob, 0, none⟩) X.vs X.vs] 44), (X.bb, C (fl lc X.ab) 34)] w := (by repeat (first | exact Mem.nil | refine Mem.consR hh (by assumption) (by simp) ?_ | refine Mem.cons hh.mem (by repeat (first | exact find_head | apply find_tail)) ?_))
  refine d_take (i := 0) hl rfl (by kernel_rfl) (by kernel_rfl) (by kernel_rfl) (by kernel_rfl) (by kernel_rfl) rfl trivial (fun _ _ _ h => h) hM (fun w hC => r_move hl rfl) rfl ?_
  clear hl a; intro a hl
  refine d_take (i := 1) hl rfl (by kernel_rfl) (by kernel_rfl) (by kernel_rfl) (by kernel_rfl) (by kernel_rfl) rfl trivial (fun _ _ _ h => h) hM (fun w hC => r_nilCheck hl rfl) rfl ?_
  clear hl a; intro a hl
  refine d_take (i := 2) hl rfl (by kernel_rfl) (by kernel_rfl) (by kernel_rfl) (by kernel_rfl) (by kernel_rfl) rfl trivial (fun _ _ _ h => h) hM (fun w hC => r_field hl rfl fld44_1) rfl ?_
  clear hl a; intro a hl
  refine d_take (i := 3) hl rfl (by kernel_rfl) (by kernel_rfl) (by kernel_rfl) (by kernel_rfl) (by kernel_rfl) rfl trivial (fun _ _ _ h => h) hM (fun w hC => r_loadC hl rfl one25 hC (by repeat (first | exact find_head | apply find_tail)) (by rfl)) rfl ?_
  clear hl a; intro a hl
  refine d_take (i := 4) hl rfl (by kernel_rfl) (by kernel_rfl) (by kernel_rfl) (by kernel_rfl) (by kernel_rfl) rfl trivial (fun _ _ _ h => h) hM (fun w hC => r_move hl rfl) rfl ?_
  clear hl a; intro a hl
  refine d_take (i := 5) hl rfl (by kernel_rfl) (by kernel_rfl) (by kernel_rfl) (by kernel_rfl) (by kernel_rfl) rfl trivial (fun _ _ _ h => h) hM (fun w hC => r_indexS hl rfl rfl slc25 (by omega) (by omega) (by first | (simp only [Int.reduceToNat]; rfl) | exact toNat_add1 _ | exact toNat_add2 _ _ | exact toNat_emod _ _ | exact Int.toNat_natCast _ | rfl)) rfl ?_
  clear hl a; intro a hl
  refine d_take (i := 6) hl rfl (by kernel_rfl) (by kernel_rfl) (by kernel_rfl) (by kernel_rfl) (by kernel_rfl) rfl trivial (fun _ _ _ h => h) hM (fun w hC => r_loadCA hl rfl agg34 hC (by repeat (first | exact find_head | apply find_tail)) (by first | exact hq1 | exact hq2 | (simp only [List.getElem?_cons_zero, List.getElem?_cons_succ, Value.cells, List.take_zero, List.take_succ_cons, List.take_nil, List.drop_zero, List.drop_succ_cons, List.drop_nil, List.length_cons, List.length_nil, List.cons_append, List.nil_append, List.append_nil, Nat.zero_add, Nat.add_zero, Nat.reduceAdd, Nat.reduceBEq, Nat.reduceEqDiff, Nat.ble, BEq.rfl, Bool.and_true, Bool.and_self, cond_true, beq_self_eq_true]; rfl)) (by first | rfl | (simp; done))) rfl ?_
  clear hl a; intro a hl
  refine d_take (i := 7) hl rfl (by kernel_rfl) (by kernel_rfl) (by kernel_rfl) (by kernel_rfl) (by kernel_rfl) rfl trivial (fun _ _ _ h => h) hM (fun w hC => r_move hl rfl) rfl ?_
  clear hl a; intro a hl
  refine d_take (i := 8) hl rfl (by kernel_rfl) (by kernel_rfl) (by kernel_rfl) (by kernel_rfl) (by kernel_rfl) rfl trivial (fun _ _ _ h => h) hM (fun w hC => r_nilCheck hl rfl) rfl ?_
  clear hl a; intro a hl
  refine d_take (i := 9) hl rfl (by kernel_rfl) (by kernel_rfl) (by kernel_rfl) (by kernel_rfl) (by kernel_rfl) rfl trivial (fun _ _ _ h => h) hM (fun w hC => r_field hl rfl fld44_1) rfl ?_
  clear hl a; intro a hl
  refine d_take (i := 10) hl rfl (by kernel_rfl) (by kernel_rfl) (by kernel_rfl) (by kernel_rfl) (by kernel_rfl) rfl trivial (fun _ _ _ h => h) hM (fun w hC => r_loadC hl rfl one25 hC (by repeat (first | exact find_head | apply find_tail)) (by rfl)) rfl ?_
  clear hl a; intro a hl
  refine d_take (i := 11) hl rfl (by kernel_rfl) (by kernel_rfl) (by kernel_rfl) (by kernel_rfl) (by kernel_rfl) rfl trivial (fun _ _ _ h => h) hM (fun w hC => r_move hl rfl) rfl ?_
  clear hl a; intro a hl
  refine d_take (i := 12) hl rfl (by kernel_rfl) (by kernel_rfl) (by kernel_rfl) (by kernel_rfl) (by kernel_rfl) rfl trivial (fun _ _ _ h => h) hM (fun w hC => r_indexS hl rfl rfl slc25 (by omega) (by omega) (by first | (simp only [Int.reduceToNat]; rfl) | exact toNat_add1 _ | exact toNat_add2 _ _ | exact toNat_emod _ _ | exact Int.toNat_natCast _ | rfl)) rfl ?_
  clear hl a; intro a hl
  refine d_take (i := 13) hl rfl (by kernel_rfl) (by kernel_rfl) (by kernel_rfl) (by kernel_rfl) (by kernel_rfl) rfl trivial (fun _ _ _ h => h) hM (fun w hC => r_loadCA hl rfl agg34 hC (by repeat (first | exact find_head | apply find_tail)) (by first | exact hq1 | exact hq2 | (simp only [List.getElem?_cons_zero, List.getElem?_cons_succ, Value.cells, List.take_zero, List.take_succ_cons, List.take_nil, List.drop_zero, List.drop_succ_cons, List.drop_nil, List.length_cons, List.length_nil, List.cons_append, List.nil_append, List.append_nil, Nat.zero_add, Nat.add_zero, Nat.reduceAdd, Nat.reduceBEq, Nat.reduceEqDiff, Nat.ble, BEq.rfl, Bool.and_true, Bool.and_self, cond_true, beq_self_eq_true]; rfl)) (by first | rfl | (simp; done))) rfl ?_
  clear hl a; intro a hl
  refine d_one (i := 14) (by kernel_rfl) rfl ?_
  try clear hM
  refine id (w_call hl hh rfl trivial rfl cal10 rfl (cmpL b1 b2 2 2 p.1 p.2 q.1 q.2 [] []) (by repeat (first | exact keeps_nil | apply keeps_cons (by repeat (first | exact find_head | apply find_tail)) (by first  | rfl) | exact keeps_self | apply keeps_mv)) ⟨by rw [List.append_nil]; exact heap_keep hh hma, by rw [List.append_nil]; exact heap_keep hh hmc⟩ ?_)
  clear hl hh a w; intro vc Fc a w hR hl hh
  obtain ⟨rfl, rfl⟩ := hR
  try simp only [List.cons_append, List.nil_append] at hh
  refine d_step (fun h => absurd h (by decide)) ?_
  refine d_takeL (i := 15) hl rfl (by kernel_rfl) (by kernel_rfl) (by kernel_rfl) (by kernel_rfl) (by kernel_rfl) rfl trivial (fun _ _ _ h => h) (fun w => r_eql hl rfl rfl) rfl ?_
  clear hl a; intro a hl
  refine d_done (by kernel_rfl) ?_
  try clear hM
  have hl2 := hl.add (t := 0) (hl.add (t := 1) (hl.add (t := 2) (hl.add (t := 3) (hl.add (t := 24) (hl.nil) rfl) rfl) rfl) rfl) rfl; clear hl; have hl := hl2; clear hl2
  refine then_normal ?_
  refine c_cond hl rfl ?_ ?_
  · intro hc0
    try simp only [decide_eq_true_eq, decide_eq_false_iff_not, Bool.not_eq_true', Bool.not_eq_false', Bool.not_eq_true, Bool.not_eq_false, Bool.and_eq_true, Bool.or_eq_true, Bool.and_eq_false_iff, Bool.or_eq_false_iff, Bool.not_not, ne_eq, Int.not_lt, Int.not_le, Decidable.not_not, beq_iff_eq, bne_iff_ne] at hc0
    refine c_seq ?_
    refine c_region ?_
    refine wl (wl_val hl rfl trivial (r_assign hl rfl) ?_)
    clear hl a; intro a hl
    refine w_nil ?_
    have hl2 := hl.add (t := 8) (hl.nil) rfl; clear hl; have hl := hl2; clear hl2
    refine then_normal ?_
    refine wp_ret ?_
    refine then_ret ?_
    refine f_ret1 (F' := []) hl hh rfl rfl (by repeat (first | exact keeps_nil | apply keeps_cons (by repeat (first | exact find_head | apply find_tail)) (by first  | rfl) | exact keeps_self | apply keeps_mv)) ?_
    exact ⟨congrArg Value.bool (by unfold twinP; rw [decide_eq_true (by assumption)]; rfl), rfl⟩
  · intro hc0
    try simp only [decide_eq_true_eq, decide_eq_false_iff_not, Bool.not_eq_true', Bool.not_eq_false', Bool.not_eq_true, Bool.not_eq_false, Bool.and_eq_true, Bool.or_eq_true, Bool.and_eq_false_iff, Bool.or_eq_false_iff, Bool.not_not, ne_eq, Int.not_lt, Int.not_le, Decidable.not_not, beq_iff_eq, bne_iff_ne] at hc0
    refine wp_skip ?_
    refine then_normal ?_
    refine c_seq ?_
    refine c_region ?_
    refine wl (wl_val hl rfl trivial (r_move hl rfl) ?_)
    clear hl a; intro a hl
    refine wl (wl_val hl rfl trivial (r_move hl rfl) ?_)
    clear hl a; intro a hl
    refine wl (wl_val hl rfl trivial (r_move hl rfl) ?_)
    clear hl a; intro a hl
    refine wl (w_call hl hh rfl trivial rfl cal15 rfl (private_spec X Z hX s fb so fc T hS hok i p hp) (by repeat (first | exact keeps_nil | apply keeps_cons (by repeat (first | exact find_head | apply find_tail)) (by first  | rfl) | exact keeps_self | apply keeps_mv)) (mem_keep hh hpre) ?_)
    clear hl hh a w; intro vc Fc a w hR hl hh
    obtain ⟨rfl, rfl⟩ := hR
    try simp only [List.cons_append, List.nil_append] at hh
    refine wl (wl_val hl rfl trivial (r_move hl rfl) ?_)
    clear hl a; intro a hl
    refine sl_split (t := 29) hl rfl ?_ ?_
    · intro hg1; clear hl; intro hl
      try simp only [decide_eq_true_eq, decide_eq_false_iff_not, Bool.not_eq_true', Bool.not_eq_false', Bool.not_eq_true, Bool.not_eq_false, Bool.and_eq_true, Bool.or_eq_true, Bool.and_eq_false_iff, Bool.or_eq_false_iff, Bool.not_not, ne_eq, Int.not_lt, Int.not_le, Decidable.not_not, beq_iff_eq, bne_iff_ne] at hg1
      refine wl (wl_val hl rfl ⟨_, _, rfl, rfl, rfl⟩ (r_move hl rfl) ?_)
      clear hl a; intro a hl
      refine wl (wl_val hl rfl ⟨_, _, rfl, rfl, rfl⟩ (r_move hl rfl) ?_)
      clear hl a; intro a hl
      refine wl (wl_val hl rfl ⟨_, _, rfl, rfl, rfl⟩ (r_move hl rfl) ?_)
      clear hl a; intro a hl
      refine wl (w_call hl hh rfl ⟨_, _, rfl, rfl, rfl⟩ rfl cal15 rfl (private_spec X Z hX s fb so fc T hS hok j q hq) (by repeat (first | exact keeps_nil | apply keeps_cons (by repeat (first | exact find_head | apply find_tail)) (by first  | rfl) | exact keeps_self | apply keeps_mv)) (mem_keep hh hpre) ?_)
      clear hl hh a w; intro vc Fc a w hR hl hh
      obtain ⟨rfl, rfl⟩ := hR
      try simp only [List.cons_append, List.nil_append] at hh
      refine wl (wl_val hl rfl trivial (r_pickT hl rfl rfl) ?_)
      clear hl a; intro a hl
      refine wl (wl_val hl rfl trivial (r_assign hl rfl) ?_)
      clear hl a; intro a hl
      refine w_nil ?_
      have hl2 := hl.add (t := 8) (hl.nil) rfl; clear hl; have hl := hl2; clear hl2
      refine then_normal ?_
      refine wp_ret ?_
      refine f_ret1 (F' := []) hl hh rfl rfl (by repeat (first | exact keeps_nil | apply keeps_cons (by repeat (first | exact find_head | apply find_tail)) (by first  | rfl) | exact keeps_self | apply keeps_mv)) ?_
      exact ⟨congrArg Value.bool (by unfold twinP; rw [decide_eq_false (by assumption)]; simp_all), rfl⟩
    · intro hg1; clear hl; intro hl
      try simp only [decide_eq_true_eq, decide_eq_false_iff_not, Bool.not_eq_true', Bool.not_eq_false', Bool.not_eq_true, Bool.not_eq_false, Bool.and_eq_true, Bool.or_eq_true, Bool.and_eq_false_iff, Bool.or_eq_false_iff, Bool.not_not, ne_eq, Int.not_lt, Int.not_le, Decidable.not_not, beq_iff_eq, bne_iff_ne] at hg1
      refine wl (wl_skip hl rfl ⟨_, _, rfl, rfl, rfl⟩ ?_)
      clear hl a; intro a hl
      refine wl (wl_skip hl rfl ⟨_, _, rfl, rfl, rfl⟩ ?_)
      clear hl a; intro a hl
      refine wl (wl_skip hl rfl ⟨_, _, rfl, rfl, rfl⟩ ?_)
      clear hl a; intro a hl
      refine wl (wl_skip hl rfl ⟨_, _, rfl, rfl, rfl⟩ ?_)
      clear hl a; intro a hl
      refine wl (wl_val hl rfl trivial (r_pickF hl rfl rfl) ?_)
      clear hl a; intro a hl
      refine wl (wl_val hl rfl trivial (r_assign hl rfl) ?_)
      clear hl a; intro a hl
      refine w_nil ?_
      have hl2 := hl.add (t := 8) (hl.nil) rfl; clear hl; have hl := hl2; clear hl2
      refine then_normal ?_
      refine wp_ret ?_
      refine f_ret1 (F' := []) hl hh rfl rfl (by repeat (first | exact keeps_nil | apply keeps_cons (by repeat (first | exact find_head | apply find_tail)) (by first  | rfl) | exact keeps_self | apply keeps_mv)) ?_
      exact ⟨congrArg Value.bool (by unfold twinP; rw [decide_eq_false (by assumption)]; simp_all), rfl⟩
end Go.Proofs.Qxb6500915a

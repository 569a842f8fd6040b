import Derived.Test.Qxb6500915aB4
namespace Go.Proofs.Qxb6500915a
open Go.Eng
set_option linter.unusedVariables false
set_option linter.unusedSimpArgs false
theorem zero34 : zeroOk Try.prog 34 (.agg #[(.int .u8 0), (.int .u8 0), (.string ⟨#[]⟩), (.slice none 0 0)]) := by unfold zeroOk; kernel_rfl
theorem slc50 : slcOk Try.prog 50 3 = true := by kernel_rfl
theorem cal6 : callable Try.prog 6 = true := by kernel_rfl
theorem slc51 : slcOk Try.prog 51 2 = true := by kernel_rfl
theorem zero61 : zeroOk Try.prog 61 (.agg #[(.int .i64 0), (.int .i64 0)]) := by unfold zeroOk; kernel_rfl
theorem bld61 : buildOk Try.prog 61 [(0, 1), (1, 1)] = true := by kernel_rfl
theorem app51 : appOk Try.prog 51 61 2 16 = true := by kernel_rfl
theorem has_push {D : List Nat} {w0 w : World} {Fc A Em Z : List (Nat × Obj)} (h : Has D w0 (Fc ++ (A ++ (Em ++ Z))) w) : Has D w0 (A ++ (Em ++ (Z ++ Fc))) w :=
  h.perm (List.perm_append_comm.trans (by simp [List.append_assoc]))
theorem blk_ne {Z : List (Nat × Obj)} {w : World} (hm : Mem Z w) {b1 b2 : Nat} {l1 l2 : List Value} {t1 t2 : TypeId} (h1 : (b1, C l1 t1) ∈ Z) (h2 : (b2, C l2 t2) ∈ Z) (ht : t1 ≠ t2) : b1 ≠ b2 := by
  rintro rfl
  have e1 := hm _ _ h1
  have e2 := hm _ _ h2
  rw [e1] at e2
  injection e2 with e2
  injection e2 with _ e3 _
  exact ht e3
/-- a reading that is taken back -/
theorem read_ro (Z : List (Nat × Obj)) (s : SB) (fb so : Nat) (fc : List Value) (hS : StA Z s fb so fc 47) (hok : s.ok s.num.length) (hl : s.num.length ≤ 900) (b x y : Nat) (hb : (b, C (fl tc [(x : Int), (y : Int)]) 30) ∈ Z) (hx : x < s.num.length) (hy : y < s.num.length) :
    SpK Try.prog 6 #[.slice (some ⟨b, 0, none⟩) 2 2, .pointer (some ⟨fb, so, none⟩), .bool false] (Mem Z) [] (fun u F' => Row u 2 (fl tc (rdP s.num s.nx [x, y]).2.2) 4 30 F') := by
  intro w hp h1 h2
  have n1 := blk_ne hp hb hS.f (by decide)
  have n2 : b ≠ s.nb := blk_ne hp hb (show (s.nb, C (fl iI s.num ++ s.jn) 3) ∈ Z from hS.nb) (by decide)
  have hr := read_back fb so s.nb s.nc fc 47 s.num s.jn s.nx [x, y] (some ⟨b, 0, none⟩) 2 [(b, C (fl tc [(x : Int), (y : Int)] ++ []) 30)] (.inr ⟨b, 2, [], rfl, rfl, rfl, Nat.le_refl _, rfl⟩) (fun z hz => by rw [List.mem_singleton] at hz; subst hz; exact ⟨n1, n2⟩) hS.h1 hS.h2 (fun v hv => by simp at hv; rcases hv with rfl | rfl <;> assumption) (by omega) (by simp) ⟨hok.nx.1, by have := hok.nx.2; omega⟩ hok.lt
  refine spK_borrow (R' := fun u F' => Row u 2 (fl tc (rdP s.num s.nx [x, y]).2.2) 4 30 F') hr ?_ w ⟨?_, ?_, ?_⟩ h1 h2
  · rintro v F' ⟨Eo, hrow, rfl⟩
    exact ⟨Eo, List.Perm.refl _, hrow⟩
  · intro b' o m
    rw [List.mem_singleton] at m
    cases m
    rw [List.append_nil]; exact hp _ _ hb
  · intro b' o m
    rcases List.mem_cons.1 m with e | m
    · cases e; exact hp _ _ hS.f
    · rw [List.mem_singleton] at m; cases m; exact hp _ _ hS.nb
  · simp [Ne.symm hS.ne]
def pkc (p : Nat × Nat) : List Value := [.int .i64 (p.1 : Int), .int .i64 (p.2 : Int)]
theorem pk_len (p : Nat × Nat) : (pkc p).length = 2 := rfl
abbrev Core := Int × List Int × Int
def SB.core (s : SB) : Core := (s.pl, s.num, s.nx)
def rd2 (c : Core) (p : Nat × Nat) : List Int := (rdP c.2.1 c.2.2 [p.1, p.2]).2.2
def cmpP (a b : List Int) : Int := cmp2 (a.getD 0 0) (a.getD 1 0) (b.getD 0 0) (b.getD 1 0)
abbrev Acc := List Int × List (Nat × Nat)
def lstep (acc : Acc) (si li : Nat) (c : Core) (p : Nat × Nat) : Acc :=
  if bitsOf .and .u64 c.1 (sh64 li) = 0 then
    (if acc.2 = [] then (rd2 c p, [(si, li)])
     else if cmpP (rd2 c p) acc.1 < 0 then (rd2 c p, [(si, li)])
     else if cmpP (rd2 c p) acc.1 = 0 then (acc.1, acc.2 ++ [(si, li)]) else acc)
  else acc
def lstepI (body : List (Nat × Nat)) (si : Nat) (c : Core) (acc : Acc) (li : Nat) : Acc := match body[li]? with | some p => lstep acc si li c p | none => acc
def innerP (body : List (Nat × Nat)) (n si : Nat) (c : Core) (acc : Acc) : Acc := (List.range n).foldl (lstepI body si c) acc
def outerI (body : List (Nat × Nat)) (n : Nat) (cs : List Core) (acc : Acc) (si : Nat) : Acc := match cs[si]? with | some c => innerP body n si c acc | none => acc
def outerP (body : List (Nat × Nat)) (n : Nat) (cs : List Core) (m : Nat) : Acc := (List.range m).foldl (outerI body n cs) ([], [])
theorem innerP_succ (body : List (Nat × Nat)) (n si : Nat) (c : Core) (acc : Acc) {p : Nat × Nat} (h : body[n]? = some p) : innerP body (n + 1) si c acc = lstep (innerP body n si c acc) si n c p := by
  unfold innerP; rw [List.range_succ, List.foldl_append]
  show lstepI body si c _ n = _
  unfold lstepI; rw [h]
theorem outerP_succ (body : List (Nat × Nat)) (n : Nat) (cs : List Core) (m : Nat) {c : Core} (h : cs[m]? = some c) : outerP body n cs (m + 1) = innerP body n m c (outerP body n cs m) := by
  unfold outerP; rw [List.range_succ, List.foldl_append]
  show outerI body n cs _ m = _
  unfold outerI; rw [h]
theorem rd_len (num : List Int) (nx : Int) (x y : Nat) (hx : x < num.length) (hy : y < num.length) : ∃ a b, (rdP num nx [x, y]).2.2 = [a, b] := by
  unfold rdP
  simp only [List.foldl_cons, List.foldl_nil]
  obtain ⟨z, hz⟩ : ∃ z, num[x]? = some z := ⟨_, List.getElem?_eq_getElem hx⟩
  have h1 : ∃ num' nx' a, rd1 (num, nx, []) x = (num', nx', [a]) ∧ num'.length = num.length := by
    by_cases c : z = -1
    · rw [rd1_yes (s := (num, nx, [])) hz c]; exact ⟨_, _, _, rfl, by simp⟩
    · rw [rd1_no (s := (num, nx, [])) hz c]; exact ⟨_, _, _, rfl, rfl⟩
  obtain ⟨num', nx', a, e, hl⟩ := h1
  rw [e]
  obtain ⟨z2, hz2⟩ : ∃ z, num'[y]? = some z := ⟨_, List.getElem?_eq_getElem (by omega)⟩
  by_cases c : z2 = -1
  · rw [rd1_yes (s := (num', nx', [a])) hz2 c]; exact ⟨_, _, rfl⟩
  · rw [rd1_no (s := (num', nx', [a])) hz2 c]; exact ⟨_, _, rfl⟩
/-- the states of a frontier -/
structure FrI (X : SX) (Z : List (Nat × Obj)) (bs : List SB) (fb : Nat) (jf : List Value) : Prop where
  f : (fb, C (fl SB.cells bs ++ jf) 47) ∈ Z
  blk : ∀ s, s ∈ bs → s.blk ∈ Z
  ok : ∀ s, s ∈ bs → s.ok X.vs
  ne : ∀ s, s ∈ bs → s.nb ≠ fb
theorem FrI.st {X : SX} {Z : List (Nat × Obj)} {bs : List SB} {fb : Nat} {jf : List Value} (h : FrI X Z bs fb jf) {i : Nat} {s : SB} (hi : bs[i]? = some s) : StA Z s fb (0 + i * 3) (fl SB.cells bs ++ jf) 47 := by
  have hm := List.mem_of_getElem? hi
  have h1 := fl_at sb_len hi jf
  have hg : ∀ k v, k < 3 → s.cells[k]? = some v → (fl SB.cells bs ++ jf)[0 + i * 3 + k]? = some v := fun k v hk hv => by
    rw [← h1, List.getElem?_take, if_pos hk, List.getElem?_drop] at hv
    exact hv
  exact ⟨h.f, hg 0 _ (by decide) rfl, hg 1 _ (by decide) rfl, hg 2 _ (by decide) rfl, h.blk s hm, h.ne s hm⟩
structure LN where
  i : Nat
  ac : Acc
  pv : Value
  Ep : List (Nat × Obj)
  ks : ByteArray
  kl : Value
  E : List (Nat × Obj)
def LN.tail (s : LN) : List (Nat × Obj) := s.Ep ++ s.E
structure LNI (s : LN) (ac : Acc) (m : Nat) : Prop where
  e : s.ac = ac
  row : Row s.pv s.ac.2.length (fl pkc s.ac.2) 2 61 s.Ep
  one : s.kl.oneCell' = true
  pm : s.ac.2.length ≤ m
  ll : s.ac.2 ≠ [] → s.ks = es ∧ ∃ lb lcp jl x y, s.kl = .slice (some ⟨lb, 0, none⟩) 2 lcp ∧ s.ac.1 = [x, y] ∧ (lb, C (fl tc [x, y] ++ jl) 30) ∈ s.E
theorem row_cut0 {p : Option Addr} {n cap size : Nat} {xs : List Value} {e : TypeId} {E : List (Nat × Obj)} (h : Row (.slice p n cap) n xs size e E) : Row (.slice p 0 cap) 0 [] size e E := by
  rcases h with ⟨h1, h2, _, h4⟩ | ⟨b, cap', junk, h1, h2, h3, h4, h5⟩
  · injection h1 with e1 _ e3
    exact .inl ⟨by rw [e1, e3], rfl, rfl, h4⟩
  · injection h1 with e1 _ e3
    subst e3
    exact .inr ⟨b, cap, xs ++ junk, by rw [e1], by simp, by simpa using h3, Nat.zero_le _, by rw [h5]; rfl⟩
theorem row_p {p : Option Addr} {n cap size : Nat} {xs : List Value} {e : TypeId} {E : List (Nat × Obj)} (h : Row (.slice p n cap) n xs size e E) : ∀ q, p = some q → q.spot = none := by
  rcases h with ⟨h1, _⟩ | ⟨b, cap', junk, h1, _⟩
  · injection h1 with e1; intro q e; rw [e1] at e; cases e
  · injection h1 with e1; intro q e; rw [e1] at e; cases e; rfl
theorem core_and (st : SB) : st.core.1 = st.pl := rfl
theorem ls_placed {acc : Acc} {si li : Nat} {c : Core} {p : Nat × Nat} (h : ¬ bitsOf .and .u64 c.1 (sh64 li) = 0) : lstep acc si li c p = acc := by unfold lstep; rw [if_neg h]
theorem ls_first {acc : Acc} {si li : Nat} {c : Core} {p : Nat × Nat} (h : bitsOf .and .u64 c.1 (sh64 li) = 0) (h0 : acc.2 = []) : lstep acc si li c p = (rd2 c p, [(si, li)]) := by unfold lstep; rw [if_pos h, if_pos h0]
theorem ls_lt {acc : Acc} {si li : Nat} {c : Core} {p : Nat × Nat} (h : bitsOf .and .u64 c.1 (sh64 li) = 0) (h0 : acc.2 ≠ []) (h1 : cmpP (rd2 c p) acc.1 < 0) : lstep acc si li c p = (rd2 c p, [(si, li)]) := by unfold lstep; rw [if_pos h, if_neg h0, if_pos h1]
theorem ls_eq {acc : Acc} {si li : Nat} {c : Core} {p : Nat × Nat} (h : bitsOf .and .u64 c.1 (sh64 li) = 0) (h0 : acc.2 ≠ []) (h1 : cmpP (rd2 c p) acc.1 = 0) : lstep acc si li c p = (acc.1, acc.2 ++ [(si, li)]) := by unfold lstep; rw [if_pos h, if_neg h0, if_neg (by omega), if_pos h1]
theorem ls_gt {acc : Acc} {si li : Nat} {c : Core} {p : Nat × Nat} (h : bitsOf .and .u64 c.1 (sh64 li) = 0) (h0 : acc.2 ≠ []) (h1 : 0 < cmpP (rd2 c p) acc.1) : lstep acc si li c p = acc := by unfold lstep; rw [if_pos h, if_neg h0, if_neg (by omega), if_neg (by omega)]
theorem all4 {ks : ByteArray} {kl : Value} (h : kl.oneCell' = true) : ([.int .u8 0, .int .u8 0, .string ks, kl] : List Value).all (·.oneCell') = true := by
  show (true && (true && (true && (kl.oneCell' && true)))) = true
  rw [h]; rfl
theorem outerP_zero (body : List (Nat × Nat)) (n : Nat) (cs : List Core) : outerP body n cs 0 = ([], []) := rfl
theorem innerP_zero (body : List (Nat × Nat)) (si : Nat) (c : Core) (acc : Acc) : innerP body 0 si c acc = acc := rfl
theorem sh64_eq (l : Nat) : IntKind.u64.wrap (1 * 2 ^ (min (l : Int).toNat IntKind.u64.bits)) = sh64 l := rfl
attribute [local irreducible] outerP innerP lstep rdP sh64


set_option maxHeartbeats 16000000 in
theorem least_spec (X : SX) (Z : List (Nat × Obj)) (hX : SIn X Z) (bs : List SB) (fb cap : Nat) (jf : List Value) (hF : FrI X Z bs fb jf) (hbl : bs.length ≤ 100000) : SpK Try.prog 7 #[.pointer (some ⟨X.sb, 0, none⟩), .slice (some ⟨fb, 0, none⟩) bs.length cap] (Mem Z) [] (fun u F' => ∃ (pv kl : Value) (ks : ByteArray) (Ep E : List (Nat × Obj)), Row pv (outerP X.body X.n (bs.map SB.core) bs.length).2.length (fl pkc (outerP X.body X.n (bs.map SB.core) bs.length).2) 2 61 Ep ∧ kl.oneCell' = true ∧ u = .tuple #[.agg ⟨[.int .u8 0, .int .u8 0, .string ks, kl]⟩, pv] ∧ F' = Ep ++ E) := by
  refine f_enter (args := [.pointer (some ⟨X.sb, 0, none⟩), .slice (some ⟨fb, 0, none⟩) bs.length cap]) Try.func7 rfl Try.ntmps7 rfl ?_
  intro w0 w a hpre hl hh
  have hms := hpre _ _ hX.s; have hmb := hpre _ _ hX.b; have hmf := hpre _ _ hF.f
  have h64 := hX.n64; have h900 := hX.v1000
  simp only [slotsFrom, Nat.reduceAdd] at hl
  refine c_seq ?_
  refine c_region ?_
  refine wl (w_alloc hl hh rfl trivial zero34 rfl ?_)
  clear hl hh a w; intro k4 a w hl hh
  refine wl (wl_val hl rfl trivial (r_assign hl rfl) ?_)
  clear hl a; intro a hl
  refine w_nil ?_
  have hl2 := hl.add (t := 0) (hl.add (t := 1) (hl.add (t := 4) (hl.add (t := 5) (hl.nil) rfl) rfl) rfl) rfl; clear hl; have hl := hl2; clear hl2
  refine then_normal ?_
  refine c_seq ?_
  refine c_seq ?_
  refine c_region ?_
  refine wl (wl_val hl rfl trivial (r_move hl rfl) ?_)
  clear hl a; intro a hl
  refine wl (wl_val hl rfl trivial (r_lenS hl rfl slc50) ?_)
  clear hl a; intro a hl
  refine wl (wl_val hl rfl trivial (r_move hl rfl) ?_)
  clear hl a; intro a hl
  refine w_nil ?_
  have hl2 := hl.add (t := 0) (hl.add (t := 1) (hl.add (t := 4) (hl.add (t := 5) (hl.add (t := 12) (hl.add (t := 13) (hl.nil) rfl) rfl) rfl) rfl) rfl) rfl; clear hl; have hl := hl2; clear hl2
  refine then_normal ?_
  refine wp_block ?_
  obtain ⟨KS0, hKS0, hk⟩ := (hl.add (t := 0) (hl.add (t := 1) (hl.add (t := 4) (hl.add (t := 12) (hl.nil) rfl) rfl) rfl) rfl).name
  obtain ⟨HS0, hHS0, hh2⟩ := hh.nameT (A := [(k4, C [.int .u8 0, .int .u8 0, .string ⟨#[]⟩, (.slice none 0 0)] 34)]) (U := []) (keeps_cons (b := k4) (o' := C [.int .u8 0, .int .u8 0, .string ⟨#[]⟩, (.slice none 0 0)] 34) (by repeat (first | exact find_head | apply find_tail)) (by first | rfl) ((by repeat (first | exact keeps_nil | exact keeps_self | exact keeps_swap | apply keeps_mv))))
  refine c_loop (α := LN) (fun s => bs.length - s.i) (fun s a w => (s.i ≤ bs.length ∧ LNI s (outerP X.body X.n (bs.map SB.core) s.i) (s.i * X.n)) ∧ Sl 68 ([(13, .int .i64 (s.i : Int)), (5, s.pv)] ++ KS0) a ∧ Has _ w0 ([(k4, C [.int .u8 0, .int .u8 0, .string s.ks, s.kl] 34)] ++ (HS0 ++ s.tail)) w) ⟨0, ([], []), .slice none 0 0, [], ⟨#[]⟩, .slice none 0 0, []⟩ ⟨⟨Nat.zero_le _, (outerP_zero _ _ _).symm, Row.nil _ _, rfl, Nat.zero_le _, fun h => absurd rfl h⟩, hl.addE (t := 13) (hl.addE (t := 5) (hk) rfl (by first | rfl)) rfl (by first | rfl), (by simp only [LN.tail, List.append_nil, List.nil_append]; first | exact hh2 | (simp only [List.append_nil] at hh2; exact hh2))⟩ ?_
  clear hk hh2 hl hh a w
  intro s a w hI
  obtain ⟨⟨hii, hI⟩, hl, hh⟩ := hI
  subst hKS0; subst hHS0
  simp only [List.cons_append, List.nil_append, List.append_nil] at hl hh
  obtain ⟨i, ac, pv, Ep, ks, kl, E⟩ := s
  obtain ⟨hac, hrow, hone1, hpm, hll⟩ := hI
  unfold LN.tail at hh
  simp only at hl hh hac hrow hone1 hpm hll hii
  have hone2 := hrow.one
  refine c_seq ?_
  refine c_region ?_
  refine wl (wl_val hl rfl trivial (r_lss hl rfl rfl) ?_)
  clear hl a; intro a hl
  refine w_nil ?_
  have hl2 := hl.add (t := 0) (hl.add (t := 1) (hl.add (t := 4) (hl.add (t := 5) (hl.add (t := 12) (hl.add (t := 13) (hl.add (t := 14) (hl.nil) rfl) rfl) rfl) rfl) rfl) rfl) rfl; clear hl; have hl := hl2; clear hl2
  refine then_normal ?_
  refine c_seq ?_
  refine c_cond hl rfl ?_ ?_
  · intro hc0
    try simp only [decide_eq_true_eq, decide_eq_false_iff_not, Bool.not_eq_true', Bool.not_eq_false', Bool.not_eq_true, Bool.not_eq_false, Bool.and_eq_true, Bool.or_eq_true, Bool.and_eq_false_iff, Bool.or_eq_false_iff, Bool.not_not, ne_eq, Int.not_lt, Int.not_le, Decidable.not_not, beq_iff_eq, bne_iff_ne] at hc0
    obtain ⟨st, hst⟩ : ∃ s, bs[i]? = some s := ⟨_, List.getElem?_eq_getElem (by omega)⟩
    have hS := hF.st hst
    have hok := hF.ok st (List.mem_of_getElem? hst)
    have hok2 : st.ok st.num.length := by rw [hok.len]; exact hok
    have hnl := hok.len
    have hcore : (bs.map SB.core)[i]? = some st.core := by rw [List.getElem?_map, hst]; rfl
    refine wp_skip ?_
    refine then_normal ?_
    refine c_seq ?_
    refine wp_block ?_
    refine c_seq ?_
    refine c_region ?_
    refine wl (wl_val hl rfl trivial (r_move hl rfl) ?_)
    clear hl a; intro a hl
    refine wl (wl_val hl rfl trivial (r_assign hl rfl) ?_)
    clear hl a; intro a hl
    refine w_nil ?_
    have hl2 := hl.add (t := 0) (hl.add (t := 1) (hl.add (t := 4) (hl.add (t := 5) (hl.add (t := 6) (hl.add (t := 12) (hl.add (t := 13) (hl.nil) rfl) rfl) rfl) rfl) rfl) rfl) rfl; clear hl; have hl := hl2; clear hl2
    refine then_normal ?_
    refine c_seq ?_
    refine c_region ?_
    refine wl (wl_val hl rfl trivial (r_move hl rfl) ?_)
    clear hl a; intro a hl
    refine wl (wl_val hl rfl trivial (r_move hl rfl) ?_)
    clear hl a; intro a hl
    refine wl (wl_val hl rfl trivial (r_indexS hl rfl rfl slc50 (by omega) (by omega) (by first | (simp only [Int.reduceToNat]; rfl) | exact toNat_add1 _ | exact toNat_add2 _ _ | exact toNat_emod _ _ | exact Int.toNat_natCast _ | rfl)) ?_)
    clear hl a; intro a hl
    refine wl (wl_val hl rfl trivial (r_assign hl rfl) ?_)
    clear hl a; intro a hl
    refine w_nil ?_
    have hl2 := hl.add (t := 0) (hl.add (t := 1) (hl.add (t := 4) (hl.add (t := 5) (hl.add (t := 6) (hl.add (t := 7) (hl.add (t := 12) (hl.add (t := 13) (hl.nil) rfl) rfl) rfl) rfl) rfl) rfl) rfl) rfl; clear hl; have hl := hl2; clear hl2
    refine then_normal ?_
    refine c_seq ?_
    refine c_region ?_
    refine wl (wl_val hl rfl trivial (r_move hl rfl) ?_)
    clear hl a; intro a hl
    refine wl (wl_val hl rfl trivial (r_nilCheck hl rfl) ?_)
    clear hl a; intro a hl
    refine wl (wl_val hl rfl trivial (r_field hl rfl fld44_1) ?_)
    clear hl a; intro a hl
    first | refine wl (w_load hl hh rfl trivial one25 rfl (by repeat (first | exact find_head | apply find_tail)) (by first | rfl) ?_) | refine wl (w_loadR hl hh rfl trivial one25 rfl hms (by simp) rfl ?_) | refine wl (w_loadR hl hh rfl trivial one25 rfl hmf (by simp) hS.h0 ?_)
    clear hl a; intro a hl
    refine wl (wl_val hl rfl trivial (r_lenS hl rfl slc25) ?_)
    clear hl a; intro a hl
    refine wl (wl_val hl rfl trivial (r_move hl rfl) ?_)
    clear hl a; intro a hl
    refine w_nil ?_
    have hl2 := hl.add (t := 0) (hl.add (t := 1) (hl.add (t := 4) (hl.add (t := 5) (hl.add (t := 6) (hl.add (t := 7) (hl.add (t := 12) (hl.add (t := 13) (hl.add (t := 22) (hl.add (t := 23) (hl.add (t := 24) (hl.nil) rfl) rfl) rfl) rfl) rfl) rfl) rfl) rfl) rfl) rfl) rfl; clear hl; have hl := hl2; clear hl2
    refine then_normal ?_
    refine wp_block ?_
    obtain ⟨KS1, hKS1, hk⟩ := (hl.add (t := 0) (hl.add (t := 1) (hl.add (t := 4) (hl.add (t := 6) (hl.add (t := 7) (hl.add (t := 12) (hl.add (t := 13) (hl.add (t := 22) (hl.add (t := 23) (hl.nil) rfl) rfl) rfl) rfl) rfl) rfl) rfl) rfl) rfl).name
    obtain ⟨HS1, hHS1, hh2⟩ := hh.nameT (A := [(k4, C [.int .u8 0, .int .u8 0, .string ks, kl] 34)]) (U := (Ep ++ E)) (keeps_cons (b := k4) (o' := C [.int .u8 0, .int .u8 0, .string ks, kl] 34) (by repeat (first | exact find_head | apply find_tail)) (by first | rfl) ((by repeat (first | exact keeps_nil | exact keeps_self | exact keeps_swap | apply keeps_mv))))
    refine c_loop (α := LN) (fun s => X.n - s.i) (fun s a w => (s.i ≤ X.n ∧ LNI s (innerP X.body s.i i st.core (outerP X.body X.n (bs.map SB.core) i)) (i * X.n + s.i)) ∧ Sl 68 ([(24, .int .i64 (s.i : Int)), (5, s.pv)] ++ KS1) a ∧ Has _ w0 ([(k4, C [.int .u8 0, .int .u8 0, .string s.ks, s.kl] 34)] ++ (HS1 ++ s.tail)) w) ⟨0, ac, pv, Ep, ks, kl, E⟩ ⟨⟨Nat.zero_le _, hac.trans (innerP_zero _ _ _ _).symm, hrow, hone1, hpm, hll⟩, hl.addE (t := 24) (hl.addE (t := 5) (hk) rfl (by first | rfl)) rfl (by first | rfl), hh2⟩ ?_
    clear hk hh2 hl hh a w hrow hone1 hone2 hll hac hpm
    intro s a w hI
    obtain ⟨⟨hil, hI⟩, hl, hh⟩ := hI
    subst hKS1; subst hHS1
    simp only [List.cons_append, List.nil_append, List.append_nil] at hl hh
    obtain ⟨l, ac, pv, Ep, ks, kl, E⟩ := s
    obtain ⟨hac, hrow, hone1, hpm, hll⟩ := hI
    unfold LN.tail at hh
    simp only at hl hh hac hrow hone1 hpm hll hil
    have hone2 := hrow.one
    refine c_seq ?_
    refine c_region ?_
    refine wl (wl_val hl rfl trivial (r_lss hl rfl rfl) ?_)
    clear hl a; intro a hl
    refine w_nil ?_
    have hl2 := hl.add (t := 0) (hl.add (t := 1) (hl.add (t := 4) (hl.add (t := 5) (hl.add (t := 6) (hl.add (t := 7) (hl.add (t := 12) (hl.add (t := 13) (hl.add (t := 22) (hl.add (t := 23) (hl.add (t := 24) (hl.add (t := 25) (hl.nil) rfl) rfl) rfl) rfl) rfl) rfl) rfl) rfl) rfl) rfl) rfl) rfl; clear hl; have hl := hl2; clear hl2
    refine then_normal ?_
    refine c_seq ?_
    refine c_cond hl rfl ?_ ?_
    · intro hc1
      try simp only [decide_eq_true_eq, decide_eq_false_iff_not, Bool.not_eq_true', Bool.not_eq_false', Bool.not_eq_true, Bool.not_eq_false, Bool.and_eq_true, Bool.or_eq_true, Bool.and_eq_false_iff, Bool.or_eq_false_iff, Bool.not_not, ne_eq, Int.not_lt, Int.not_le, Decidable.not_not, beq_iff_eq, bne_iff_ne] at hc1
      obtain ⟨p, hp⟩ : ∃ p, X.body[l]? = some p := ⟨_, List.getElem?_eq_getElem (by rw [hX.nl]; omega)⟩
      obtain ⟨b, hb⟩ : ∃ b, X.ab[l]? = some b := ⟨_, List.getElem?_eq_getElem (by rw [hX.al]; omega)⟩
      have hab := hX.a l b p hb hp
      obtain ⟨hv1, hv2⟩ := hX.vb l p hp
      have hq1 := lc_at hb
      simp only [lc] at hq1
      obtain ⟨pp, pc, hpv⟩ := row_val hrow
      subst hpv
      have hpn := row_p hrow
      have hbd := Nat.mul_le_mul (show i ≤ 100000 by omega) h64
      refine wp_skip ?_
      refine then_normal ?_
      refine c_seq ?_
      refine wp_block ?_
      refine c_seq ?_
      refine c_region ?_
      refine wl (wl_val hl rfl trivial (r_move hl rfl) ?_)
      clear hl a; intro a hl
      refine wl (wl_val hl rfl trivial (r_indexS hl rfl rfl slc25 (by omega) (by omega) (by first | (simp only [Int.reduceToNat]; rfl) | exact toNat_add1 _ | exact toNat_add2 _ _ | exact toNat_emod _ _ | exact Int.toNat_natCast _ | rfl)) ?_)
      clear hl a; intro a hl
      first | refine wl (w_loadA hl hh rfl trivial agg34 rfl (by repeat (first | exact find_head | apply find_tail)) (by first | (simp only [List.getElem?_cons_zero, List.getElem?_cons_succ, Value.cells, List.take_zero, List.take_succ_cons, List.take_nil, List.drop_zero, List.drop_succ_cons, List.drop_nil, List.length_cons, List.length_nil, List.cons_append, List.nil_append, List.append_nil, Nat.zero_add, Nat.add_zero, Nat.reduceAdd, Nat.reduceBEq, Nat.reduceEqDiff, Nat.ble, BEq.rfl, Bool.and_true, Bool.and_self, cond_true, beq_self_eq_true]; rfl)) (by first | rfl | (simp; done)) ?_) | refine wl (w_loadRA hl hh rfl trivial agg34 rfl hmb (by simp) hq1 rfl ?_)
      clear hl a; intro a hl
      refine wl (w_alloc hl hh rfl trivial zero34 rfl ?_)
      clear hl hh a w; intro k9 a w hl hh
      refine wl (wl_val hl rfl trivial (r_assign hl rfl) ?_)
      clear hl a; intro a hl
      refine wl (w_storeA hl hh trivial agg34 rfl rfl (by repeat (first | exact find_head | apply find_tail)) (by first | rfl | (simp; done)) (by first | (simp; done) | (simp; omega)) (by first | rfl | (simp; done) | exact all4 hone1) (by first | (simp only [setL, List.getElem?_cons_zero, List.getElem?_cons_succ, Value.cells, List.take_zero, List.take_succ_cons, List.take_nil, List.drop_zero, List.drop_succ_cons, List.drop_nil, List.length_cons, List.length_nil, List.cons_append, List.nil_append, List.append_nil, Nat.zero_add, Nat.add_zero, Nat.reduceAdd, Nat.reduceBEq, Nat.reduceEqDiff, Nat.ble, BEq.rfl, Bool.and_true, Bool.and_self, cond_true, beq_self_eq_true]; rfl)) ?_)
      clear hh w; intro w hh
      refine w_nil ?_
      have hl2 := hl.add (t := 0) (hl.add (t := 1) (hl.add (t := 4) (hl.add (t := 5) (hl.add (t := 6) (hl.add (t := 7) (hl.add (t := 8) (hl.add (t := 9) (hl.add (t := 12) (hl.add (t := 13) (hl.add (t := 22) (hl.add (t := 23) (hl.add (t := 24) (hl.nil) rfl) rfl) rfl) rfl) rfl) rfl) rfl) rfl) rfl) rfl) rfl) rfl) rfl; clear hl; have hl := hl2; clear hl2
      refine then_normal ?_
      refine c_seq ?_
      refine c_seq ?_
      refine c_region ?_
      refine wl (wl_val hl rfl trivial (r_move hl rfl) ?_)
      clear hl a; intro a hl
      refine wl (wl_val hl rfl trivial (r_nilCheck hl rfl) ?_)
      clear hl a; intro a hl
      refine wl (wl_val hl rfl trivial (r_field hl rfl fld47_0) ?_)
      clear hl a; intro a hl
      first | refine wl (w_load hl hh rfl trivial one45 rfl (by repeat (first | exact find_head | apply find_tail)) (by first | rfl) ?_) | refine wl (w_loadR hl hh rfl trivial one45 rfl hms (by simp) rfl ?_) | refine wl (w_loadR hl hh rfl trivial one45 rfl hmf (by simp) hS.h0 ?_)
      clear hl a; intro a hl
      refine wl (wl_val hl rfl trivial (r_move hl rfl) ?_)
      clear hl a; intro a hl
      first | refine wl (wl_val hl rfl trivial (r_conv hl rfl Try.underlying3 Try.underlying58 (by simp only [Fits]; omega)) ?_) | refine wl (wl_val hl rfl trivial (r_convW hl rfl Try.underlying3 Try.underlying58) ?_)
      clear hl a; intro a hl
      refine wl (wl_val hl rfl trivial (r_shl hl rfl rfl (by omega)) ?_)
      clear hl a; intro a hl
      rw [show IntKind.u64.wrap (1 * 2 ^ (min (l : Int).toNat IntKind.u64.bits)) = sh64 l from sh64_eq l] at hl
      refine wl (wl_val hl rfl trivial (r_and hl rfl rfl) ?_)
      clear hl a; intro a hl
      refine wl (wl_val hl rfl trivial (r_neq hl rfl rfl) ?_)
      clear hl a; intro a hl
      refine w_nil ?_
      have hl2 := hl.add (t := 0) (hl.add (t := 1) (hl.add (t := 4) (hl.add (t := 5) (hl.add (t := 6) (hl.add (t := 7) (hl.add (t := 8) (hl.add (t := 9) (hl.add (t := 12) (hl.add (t := 13) (hl.add (t := 22) (hl.add (t := 23) (hl.add (t := 24) (hl.add (t := 37) (hl.nil) rfl) rfl) rfl) rfl) rfl) rfl) rfl) rfl) rfl) rfl) rfl) rfl) rfl) rfl; clear hl; have hl := hl2; clear hl2
      refine then_normal ?_
      refine c_cond hl rfl ?_ ?_
      · intro hc2
        try simp only [decide_eq_true_eq, decide_eq_false_iff_not, Bool.not_eq_true', Bool.not_eq_false', Bool.not_eq_true, Bool.not_eq_false, Bool.and_eq_true, Bool.or_eq_true, Bool.and_eq_false_iff, Bool.or_eq_false_iff, Bool.not_not, ne_eq, Int.not_lt, Int.not_le, Decidable.not_not, beq_iff_eq, bne_iff_ne] at hc2
        have hpl2 : ¬ bitsOf .and .u64 st.core.1 (sh64 l) = 0 := hc2
        refine wp_exit ?_
        refine then_exit ?_
        refine blk_exit ?_
        refine then_normal ?_
        refine c_region ?_
        first | refine wl (wl_val hl rfl trivial (r_add hl rfl rfl (by simp only [Fits]; omega)) ?_) | refine wl (wl_val hl rfl trivial (r_addW hl rfl rfl) ?_)
        clear hl a; intro a hl
        refine wl (wl_val hl rfl trivial (r_move hl rfl) ?_)
        clear hl a; intro a hl
        refine w_nil ?_
        have hl2 := hl.add (t := 0) (hl.add (t := 1) (hl.add (t := 4) (hl.add (t := 5) (hl.add (t := 6) (hl.add (t := 7) (hl.add (t := 12) (hl.add (t := 13) (hl.add (t := 22) (hl.add (t := 23) (hl.add (t := 24) (hl.nil) rfl) rfl) rfl) rfl) rfl) rfl) rfl) rfl) rfl) rfl) rfl; clear hl; have hl := hl2; clear hl2
        refine then_normal ?_
        skip
        first | refine ⟨⟨l + 1, ([xa, xb], [(i, l)]), rv2, E2, es, .slice (some ⟨rb, 0, none⟩) 2 rc, E ++ Fo⟩, (by simp only; omega), ⟨by show (l + 1 ≤ X.n); omega, (by rw [innerP_succ _ _ _ _ _ hp, ← hac]; first | (rw [ls_first hpl2 he0, hrd2]) | (rw [ls_lt hpl2 hne0 (by rw [hcp]; omega), hrd2])), (by have := hR2; simpa [fl, pkc] using this), rfl, (by show 1 ≤ i * X.n + (l + 1); omega), fun _ => ⟨rfl, rb, rc, rj, xa, xb, rfl, rfl, List.mem_append_right _ (by rw [hFo]; simp)⟩⟩, hl.addE (t := 24) (hl.addE (t := 5) (hl.addE (t := 0) (hl.addE (t := 1) (hl.addE (t := 4) (hl.addE (t := 6) (hl.addE (t := 7) (hl.addE (t := 12) (hl.addE (t := 13) (hl.addE (t := 22) (hl.addE (t := 23) (hl.nil) rfl (by first | rfl | rfl)) rfl (by first | rfl | rfl)) rfl (by first | rfl | rfl)) rfl (by first | rfl | rfl)) rfl (by first | rfl | rfl)) rfl (by first | rfl | rfl)) rfl (by first | rfl | rfl)) rfl (by first | rfl | rfl)) rfl (by first | rfl | rfl)) rfl (by first | rfl | rfl)) rfl (by first | rfl | rfl), hh.keep (by repeat (first | exact keeps_nil | apply keeps_cons (by repeat (first | exact find_head | apply find_tail)) (by first  | rfl) | exact keeps_self | exact keeps_left | exact keeps_right | exact keeps_swap | apply keeps_mv))⟩ | refine ⟨⟨l + 1, (ac.1, ac.2 ++ [(i, l)]), rv2, E2, es, .slice (some ⟨lb, 0, none⟩) 2 lcp, E ++ Fo⟩, (by simp only; omega), ⟨by show (l + 1 ≤ X.n); omega, (by rw [innerP_succ _ _ _ _ _ hp, ← hac, ls_eq hpl2 hne0 (by rw [hcp]; omega)]), (by have := hR2; show Row rv2 (ac.2 ++ [(i, l)]).length (fl pkc (ac.2 ++ [(i, l)])) 2 61 E2; rw [List.length_append, fl_append]; simpa [fl, pkc] using this), hone1, (by show (ac.2 ++ [(i, l)]).length ≤ i * X.n + (l + 1); rw [List.length_append]; simp only [List.length_singleton]; omega), fun _ => ⟨rfl, lb, lcp, jl, lx, ly, rfl, hax, List.mem_append_left _ hlm⟩⟩, hl.addE (t := 24) (hl.addE (t := 5) (hl.addE (t := 0) (hl.addE (t := 1) (hl.addE (t := 4) (hl.addE (t := 6) (hl.addE (t := 7) (hl.addE (t := 12) (hl.addE (t := 13) (hl.addE (t := 22) (hl.addE (t := 23) (hl.nil) rfl (by first | rfl | rfl)) rfl (by first | rfl | rfl)) rfl (by first | rfl | rfl)) rfl (by first | rfl | rfl)) rfl (by first | rfl | rfl)) rfl (by first | rfl | rfl)) rfl (by first | rfl | rfl)) rfl (by first | rfl | rfl)) rfl (by first | rfl | rfl)) rfl (by first | rfl | rfl)) rfl (by first | rfl | rfl), hh.keep (by repeat (first | exact keeps_nil | apply keeps_cons (by repeat (first | exact find_head | apply find_tail)) (by first  | rfl) | exact keeps_self | exact keeps_left | exact keeps_right | exact keeps_swap | apply keeps_mv))⟩ | refine ⟨⟨l + 1, ac, .slice pp ac.2.length pc, Ep, es, .slice (some ⟨lb, 0, none⟩) 2 lcp, E ++ Fo⟩, (by simp only; omega), ⟨by show (l + 1 ≤ X.n); omega, (by rw [innerP_succ _ _ _ _ _ hp, ← hac, ls_gt hpl2 hne0 (by rw [hcp]; omega)]), hrow, hone1, (by show ac.2.length ≤ i * X.n + (l + 1); omega), fun _ => ⟨rfl, lb, lcp, jl, lx, ly, rfl, hax, List.mem_append_left _ hlm⟩⟩, hl.addE (t := 24) (hl.addE (t := 5) (hl.addE (t := 0) (hl.addE (t := 1) (hl.addE (t := 4) (hl.addE (t := 6) (hl.addE (t := 7) (hl.addE (t := 12) (hl.addE (t := 13) (hl.addE (t := 22) (hl.addE (t := 23) (hl.nil) rfl (by first | rfl | rfl)) rfl (by first | rfl | rfl)) rfl (by first | rfl | rfl)) rfl (by first | rfl | rfl)) rfl (by first | rfl | rfl)) rfl (by first | rfl | rfl)) rfl (by first | rfl | rfl)) rfl (by first | rfl | rfl)) rfl (by first | rfl | rfl)) rfl (by first | rfl | rfl)) rfl (by first | rfl | rfl), hh.keep (by repeat (first | exact keeps_nil | apply keeps_cons (by repeat (first | exact find_head | apply find_tail)) (by first  | rfl) | exact keeps_self | exact keeps_left | exact keeps_right | exact keeps_swap | apply keeps_mv))⟩ | refine ⟨⟨l + 1, ac, .slice pp ac.2.length pc, Ep, ks, kl, E⟩, (by simp only; omega), ⟨by show (l + 1 ≤ X.n); omega, (by rw [innerP_succ _ _ _ _ _ hp, ← hac, ls_placed hpl2]), hrow, hone1, (by show ac.2.length ≤ i * X.n + (l + 1); omega), hll⟩, hl.addE (t := 24) (hl.addE (t := 5) (hl.addE (t := 0) (hl.addE (t := 1) (hl.addE (t := 4) (hl.addE (t := 6) (hl.addE (t := 7) (hl.addE (t := 12) (hl.addE (t := 13) (hl.addE (t := 22) (hl.addE (t := 23) (hl.nil) rfl (by first | rfl | rfl)) rfl (by first | rfl | rfl)) rfl (by first | rfl | rfl)) rfl (by first | rfl | rfl)) rfl (by first | rfl | rfl)) rfl (by first | rfl | rfl)) rfl (by first | rfl | rfl)) rfl (by first | rfl | rfl)) rfl (by first | rfl | rfl)) rfl (by first | rfl | rfl)) rfl (by first | rfl | rfl), hh.keep (by repeat (first | exact keeps_nil | apply keeps_cons (by repeat (first | exact find_head | apply find_tail)) (by first  | rfl) | exact keeps_self | exact keeps_left | exact keeps_right | exact keeps_swap | apply keeps_mv))⟩ | (exfalso; omega)
      · intro hc2
        try simp only [decide_eq_true_eq, decide_eq_false_iff_not, Bool.not_eq_true', Bool.not_eq_false', Bool.not_eq_true, Bool.not_eq_false, Bool.and_eq_true, Bool.or_eq_true, Bool.and_eq_false_iff, Bool.or_eq_false_iff, Bool.not_not, ne_eq, Int.not_lt, Int.not_le, Decidable.not_not, beq_iff_eq, bne_iff_ne] at hc2
        have hpl2 : bitsOf .and .u64 st.core.1 (sh64 l) = 0 := hc2
        refine wp_skip ?_
        refine then_normal ?_
        refine c_seq ?_
        refine c_region ?_
        refine wl (wl_val hl rfl trivial (r_field hl rfl fld34_2) ?_)
        clear hl a; intro a hl
        refine wl (wl_val hl rfl trivial (r_field hl rfl fld24_1) ?_)
        clear hl a; intro a hl
        first | refine wl (w_load hl hh rfl trivial one22 rfl (by repeat (first | exact find_head | apply find_tail)) (by first | rfl) ?_) | refine wl (w_loadR hl hh rfl trivial one22 rfl hms (by simp) rfl ?_) | refine wl (w_loadR hl hh rfl trivial one22 rfl hmf (by simp) hS.h0 ?_)
        clear hl a; intro a hl
        refine wl (wl_val hl rfl trivial (r_move hl rfl) ?_)
        clear hl a; intro a hl
        refine wl (w_call hl hh rfl trivial rfl cal6 rfl (read_ro Z st fb (0 + i * 3) (fl SB.cells bs ++ jf) hS hok2 (by omega) b p.1 p.2 hab (by omega) (by omega)) (by repeat (first | exact keeps_nil | apply keeps_cons (by repeat (first | exact find_head | apply find_tail)) (by first  | rfl) | exact keeps_self | exact keeps_left | exact keeps_right | exact keeps_swap | apply keeps_mv)) (mem_keep hh hpre) ?_)
        clear hl hh a w; intro vc Fc a w hR hl hh
        try simp only [List.cons_append, List.nil_append] at hh
        have hRo : Row vc 2 (fl tc (rdP st.num st.nx [p.1, p.2]).2.2) 4 30 Fc := hR
        clear hR
        generalize Fc = Fo at hh hRo
        replace hh := has_push (A := [_, _]) hh
        simp only [List.cons_append, List.nil_append] at hh
        obtain ⟨xa, xb, hxy⟩ := rd_len st.num st.nx p.1 p.2 (by omega) (by omega)
        rw [hxy] at hRo
        obtain ⟨rp, rc, hrv⟩ := row_val hRo
        subst hrv
        obtain ⟨rb, rj, hrp, _, _, hFo⟩ := row_pos hRo (by decide)
        subst hrp
        have hrd2 : rd2 st.core p = [xa, xb] := hxy
        refine wl (wl_val hl rfl trivial (r_field hl rfl fld34_2) ?_)
        clear hl a; intro a hl
        refine wl (wl_val hl rfl trivial (r_field hl rfl fld24_1) ?_)
        clear hl a; intro a hl
        refine wl (w_store hl hh trivial one22 rfl rfl (by repeat (first | exact find_head | apply find_tail)) (by first | (simp; done) | (simp; omega)) (by first | rfl | assumption | (apply Row.one; assumption)) (by first | (simp only [setL, List.getElem?_cons_zero, List.getElem?_cons_succ, Value.cells, List.take_zero, List.take_succ_cons, List.take_nil, List.drop_zero, List.drop_succ_cons, List.drop_nil, List.length_cons, List.length_nil, List.cons_append, List.nil_append, List.append_nil, Nat.zero_add, Nat.add_zero, Nat.reduceAdd, Nat.reduceBEq, Nat.reduceEqDiff, Nat.ble, BEq.rfl, Bool.and_true, Bool.and_self, cond_true, beq_self_eq_true]; rfl)) ?_)
        clear hh w; intro w hh
        refine w_nil ?_
        have hl2 := hl.add (t := 0) (hl.add (t := 1) (hl.add (t := 4) (hl.add (t := 5) (hl.add (t := 6) (hl.add (t := 7) (hl.add (t := 8) (hl.add (t := 9) (hl.add (t := 12) (hl.add (t := 13) (hl.add (t := 22) (hl.add (t := 23) (hl.add (t := 24) (hl.nil) rfl) rfl) rfl) rfl) rfl) rfl) rfl) rfl) rfl) rfl) rfl) rfl) rfl; clear hl; have hl := hl2; clear hl2
        refine then_normal ?_
        refine c_seq ?_
        refine c_region ?_
        refine wl (wl_val hl rfl trivial (r_assign hl rfl) ?_)
        clear hl a; intro a hl
        refine w_nil ?_
        have hl2 := hl.add (t := 0) (hl.add (t := 1) (hl.add (t := 4) (hl.add (t := 5) (hl.add (t := 6) (hl.add (t := 7) (hl.add (t := 8) (hl.add (t := 9) (hl.add (t := 10) (hl.add (t := 12) (hl.add (t := 13) (hl.add (t := 22) (hl.add (t := 23) (hl.add (t := 24) (hl.nil) rfl) rfl) rfl) rfl) rfl) rfl) rfl) rfl) rfl) rfl) rfl) rfl) rfl) rfl; clear hl; have hl := hl2; clear hl2
        refine then_normal ?_
        refine c_seq ?_
        refine c_seq ?_
        refine c_region ?_
        refine wl (wl_val hl rfl trivial (r_move hl rfl) ?_)
        clear hl a; intro a hl
        refine wl (wl_val hl rfl trivial (r_lenS hl rfl slc51) ?_)
        clear hl a; intro a hl
        refine wl (wl_val hl rfl trivial (r_gtr hl rfl rfl) ?_)
        clear hl a; intro a hl
        refine w_nil ?_
        have hl2 := hl.add (t := 0) (hl.add (t := 1) (hl.add (t := 4) (hl.add (t := 5) (hl.add (t := 6) (hl.add (t := 7) (hl.add (t := 8) (hl.add (t := 9) (hl.add (t := 10) (hl.add (t := 12) (hl.add (t := 13) (hl.add (t := 22) (hl.add (t := 23) (hl.add (t := 24) (hl.add (t := 47) (hl.nil) rfl) rfl) rfl) rfl) rfl) rfl) rfl) rfl) rfl) rfl) rfl) rfl) rfl) rfl) rfl; clear hl; have hl := hl2; clear hl2
        refine then_normal ?_
        refine c_cond hl rfl ?_ ?_
        · intro hc3
          try simp only [decide_eq_true_eq, decide_eq_false_iff_not, Bool.not_eq_true', Bool.not_eq_false', Bool.not_eq_true, Bool.not_eq_false, Bool.and_eq_true, Bool.or_eq_true, Bool.and_eq_false_iff, Bool.or_eq_false_iff, Bool.not_not, ne_eq, Int.not_lt, Int.not_le, Decidable.not_not, beq_iff_eq, bne_iff_ne] at hc3
          have hne0 : ac.2 ≠ [] := fun e => by rw [e] at hc3; simp at hc3
          obtain ⟨hks, lb, lcp, jl, lx, ly, hkl, hax, hlm⟩ := hll hne0
          subst hks; subst hkl
          have hcp : cmpP (rd2 st.core p) ac.1 = cmp2 xa xb lx ly := by rw [hrd2, hax]; rfl
          refine c_region ?_
          first | refine wl (w_loadA hl hh rfl trivial agg34 rfl (by repeat (first | exact find_head | apply find_tail)) (by first | (simp only [List.getElem?_cons_zero, List.getElem?_cons_succ, Value.cells, List.take_zero, List.take_succ_cons, List.take_nil, List.drop_zero, List.drop_succ_cons, List.drop_nil, List.length_cons, List.length_nil, List.cons_append, List.nil_append, List.append_nil, Nat.zero_add, Nat.add_zero, Nat.reduceAdd, Nat.reduceBEq, Nat.reduceEqDiff, Nat.ble, BEq.rfl, Bool.and_true, Bool.and_self, cond_true, beq_self_eq_true]; rfl)) (by first | rfl | (simp; done)) ?_) | refine wl (w_loadRA hl hh rfl trivial agg34 rfl hmb (by simp) hq1 rfl ?_)
          clear hl a; intro a hl
          first | refine wl (w_loadA hl hh rfl trivial agg34 rfl (by repeat (first | exact find_head | apply find_tail)) (by first | (simp only [List.getElem?_cons_zero, List.getElem?_cons_succ, Value.cells, List.take_zero, List.take_succ_cons, List.take_nil, List.drop_zero, List.drop_succ_cons, List.drop_nil, List.length_cons, List.length_nil, List.cons_append, List.nil_append, List.append_nil, Nat.zero_add, Nat.add_zero, Nat.reduceAdd, Nat.reduceBEq, Nat.reduceEqDiff, Nat.ble, BEq.rfl, Bool.and_true, Bool.and_self, cond_true, beq_self_eq_true]; rfl)) (by first | rfl | (simp; done)) ?_) | refine wl (w_loadRA hl hh rfl trivial agg34 rfl hmb (by simp) hq1 rfl ?_)
          clear hl a; intro a hl
          refine wl (w_call hl hh rfl trivial rfl cal10 rfl (cmpL rb lb rc lcp xa xb lx ly rj jl) (by repeat (first | exact keeps_nil | apply keeps_cons (by repeat (first | exact find_head | apply find_tail)) (by first  | rfl) | exact keeps_self | exact keeps_left | exact keeps_right | exact keeps_swap | apply keeps_mv)) ⟨hh.mem _ _ (by rw [hFo]; simp), hh.mem _ _ (by simp [hlm])⟩ ?_)
          clear hl hh a w; intro vc Fc a w hR hl hh
          obtain ⟨rfl, rfl⟩ := hR
          try simp only [List.cons_append, List.nil_append] at hh
          refine wl (wl_val hl rfl trivial (r_assign hl rfl) ?_)
          clear hl a; intro a hl
          refine w_nil ?_
          have hl2 := hl.add (t := 0) (hl.add (t := 1) (hl.add (t := 4) (hl.add (t := 5) (hl.add (t := 6) (hl.add (t := 7) (hl.add (t := 8) (hl.add (t := 9) (hl.add (t := 10) (hl.add (t := 12) (hl.add (t := 13) (hl.add (t := 22) (hl.add (t := 23) (hl.add (t := 24) (hl.nil) rfl) rfl) rfl) rfl) rfl) rfl) rfl) rfl) rfl) rfl) rfl) rfl) rfl) rfl; clear hl; have hl := hl2; clear hl2
          refine then_normal ?_
          refine c_seq ?_
          refine c_seq ?_
          refine c_region ?_
          refine wl (wl_val hl rfl trivial (r_move hl rfl) ?_)
          clear hl a; intro a hl
          refine wl (wl_val hl rfl trivial (r_lss hl rfl rfl) ?_)
          clear hl a; intro a hl
          refine w_nil ?_
          have hl2 := hl.add (t := 0) (hl.add (t := 1) (hl.add (t := 4) (hl.add (t := 5) (hl.add (t := 6) (hl.add (t := 7) (hl.add (t := 8) (hl.add (t := 9) (hl.add (t := 10) (hl.add (t := 12) (hl.add (t := 13) (hl.add (t := 22) (hl.add (t := 23) (hl.add (t := 24) (hl.add (t := 52) (hl.nil) rfl) rfl) rfl) rfl) rfl) rfl) rfl) rfl) rfl) rfl) rfl) rfl) rfl) rfl) rfl; clear hl; have hl := hl2; clear hl2
          refine then_normal ?_
          refine c_cond hl rfl ?_ ?_
          · intro hc4
            try simp only [decide_eq_true_eq, decide_eq_false_iff_not, Bool.not_eq_true', Bool.not_eq_false', Bool.not_eq_true, Bool.not_eq_false, Bool.and_eq_true, Bool.or_eq_true, Bool.and_eq_false_iff, Bool.or_eq_false_iff, Bool.not_not, ne_eq, Int.not_lt, Int.not_le, Decidable.not_not, beq_iff_eq, bne_iff_ne] at hc4
            have hrowN := row_cut0 hrow
            refine c_draw [(k9, C [.int .u8 0, .int .u8 0, .string es, .slice (some ⟨rb, 0, none⟩) 2 rc] 34)] [4] mixed hh ?_
            clear hh w; intro w hh
            have hM : Mem [(k9, C [.int .u8 0, .int .u8 0, .string es, .slice (some ⟨rb, 0, none⟩) 2 rc] 34)] w := (by repeat (first | exact Mem.nil | refine Mem.consR hh (by assumption) (by simp) ?_ | refine Mem.cons hh.mem (by repeat (first | exact find_head | apply find_tail)) ?_))
            refine d_take (i := 0) hl rfl (by kernel_rfl) (by kernel_rfl) (by kernel_rfl) (by kernel_rfl) (by kernel_rfl) rfl trivial (fun _ _ _ h => h) hM (fun w hC => r_loadCA hl rfl agg34 hC (by repeat (first | exact find_head | apply find_tail)) (by first | (simp only [List.getElem?_cons_zero, List.getElem?_cons_succ, Value.cells, List.take_zero, List.take_succ_cons, List.take_nil, List.drop_zero, List.drop_succ_cons, List.drop_nil, List.length_cons, List.length_nil, List.cons_append, List.nil_append, List.append_nil, Nat.zero_add, Nat.add_zero, Nat.reduceAdd, Nat.reduceBEq, Nat.reduceEqDiff, Nat.ble, BEq.rfl, Bool.and_true, Bool.and_self, cond_true, beq_self_eq_true]; rfl)) (by first | rfl | (simp; done))) rfl ?_
            clear hl a; intro a hl
            refine d_take (i := 1) hl rfl (by kernel_rfl) (by kernel_rfl) (by kernel_rfl) (by kernel_rfl) (by kernel_rfl) rfl trivial (fun _ _ _ h => h) hM (fun w hC => r_move hl rfl) rfl ?_
            clear hl a; intro a hl
            refine d_take (i := 2) hl rfl (by kernel_rfl) (by kernel_rfl) (by kernel_rfl) (by kernel_rfl) (by kernel_rfl) rfl trivial (fun _ _ _ h => h) hM (fun w hC => r_sliceS01 (by intro q e; first | (cases e; rfl) | (cases e; done) | exact hpn q e) hl rfl rfl slc51 (by omega) (by first | (simp only [Int.reduceToNat]; rfl) | exact toNat_add1 _ | exact toNat_add2 _ _ | exact toNat_emod _ _ | exact Int.toNat_natCast _ | rfl)) rfl ?_
            clear hl a; intro a hl
            refine d_one (i := 3) (by kernel_rfl) rfl ?_
            try clear hM
            refine id (w_storeA hl hh trivial agg34 rfl rfl (by repeat (first | exact find_head | apply find_tail)) (by first | rfl | (simp; done)) (by first | (simp; done) | (simp; omega)) (by first | rfl | (simp; done) | exact all4 hone1) (by first | (simp only [setL, List.getElem?_cons_zero, List.getElem?_cons_succ, Value.cells, List.take_zero, List.take_succ_cons, List.take_nil, List.drop_zero, List.drop_succ_cons, List.drop_nil, List.length_cons, List.length_nil, List.cons_append, List.nil_append, List.append_nil, Nat.zero_add, Nat.add_zero, Nat.reduceAdd, Nat.reduceBEq, Nat.reduceEqDiff, Nat.ble, BEq.rfl, Bool.and_true, Bool.and_self, cond_true, beq_self_eq_true]; rfl)) ?_)
            clear hh w; intro w hh
            have hM : Mem [(k9, C [.int .u8 0, .int .u8 0, .string es, .slice (some ⟨rb, 0, none⟩) 2 rc] 34)] w := (by repeat (first | exact Mem.nil | refine Mem.consR hh (by assumption) (by simp) ?_ | refine Mem.cons hh.mem (by repeat (first | exact find_head | apply find_tail)) ?_))
            refine d_step (fun _ => hM) ?_
            refine d_takeL (i := 4) hl rfl (by kernel_rfl) (by kernel_rfl) (by kernel_rfl) (by kernel_rfl) (by kernel_rfl) rfl trivial (fun _ _ _ h => h) (fun w => r_assign hl rfl) rfl ?_
            clear hl a; intro a hl
            refine d_done (by kernel_rfl) ?_
            try clear hM
            have hl2 := hl.add (t := 0) (hl.add (t := 1) (hl.add (t := 4) (hl.add (t := 5) (hl.add (t := 6) (hl.add (t := 7) (hl.add (t := 8) (hl.add (t := 10) (hl.add (t := 12) (hl.add (t := 13) (hl.add (t := 22) (hl.add (t := 23) (hl.add (t := 24) (hl.nil) rfl) rfl) rfl) rfl) rfl) rfl) rfl) rfl) rfl) rfl) rfl) rfl) rfl; clear hl; have hl := hl2; clear hl2
            refine then_normal ?_
            refine c_seq ?_
            refine c_region ?_
            refine wl (wl_val hl rfl trivial (r_move hl rfl) ?_)
            clear hl a; intro a hl
            refine wl (wl_val hl rfl trivial (r_leq hl rfl rfl) ?_)
            clear hl a; intro a hl
            refine w_nil ?_
            have hl2 := hl.add (t := 0) (hl.add (t := 1) (hl.add (t := 4) (hl.add (t := 5) (hl.add (t := 6) (hl.add (t := 7) (hl.add (t := 8) (hl.add (t := 12) (hl.add (t := 13) (hl.add (t := 22) (hl.add (t := 23) (hl.add (t := 24) (hl.add (t := 57) (hl.nil) rfl) rfl) rfl) rfl) rfl) rfl) rfl) rfl) rfl) rfl) rfl) rfl) rfl; clear hl; have hl := hl2; clear hl2
            refine then_normal ?_
            refine c_cond hl rfl ?_ ?_
            · intro hc5
              try simp only [decide_eq_true_eq, decide_eq_false_iff_not, Bool.not_eq_true', Bool.not_eq_false', Bool.not_eq_true, Bool.not_eq_false, Bool.and_eq_true, Bool.or_eq_true, Bool.and_eq_false_iff, Bool.or_eq_false_iff, Bool.not_not, ne_eq, Int.not_lt, Int.not_le, Decidable.not_not, beq_iff_eq, bne_iff_ne] at hc5
              refine c_region ?_
              refine wl (wl_val hl rfl trivial (r_move hl rfl) ?_)
              clear hl a; intro a hl
              refine wl (wl_val hl rfl trivial (r_move hl rfl) ?_)
              clear hl a; intro a hl
              refine wl (wl_val hl rfl trivial (r_move hl rfl) ?_)
              clear hl a; intro a hl
              refine wl (wl_val hl rfl trivial (r_build hl rfl zero61 bld61 (by simp only [fillL, setL, List.getElem?_cons_zero, List.getElem?_cons_succ, Value.cells, List.take_zero, List.take_succ_cons, List.take_nil, List.drop_zero, List.drop_succ_cons, List.drop_nil, List.length_cons, List.length_nil, List.cons_append, List.nil_append, List.append_nil, Nat.zero_add, Nat.add_zero, Nat.reduceAdd, Nat.reduceBEq, Nat.reduceEqDiff, Nat.ble, BEq.rfl, Bool.and_true, Bool.and_self, cond_true, beq_self_eq_true]; rfl)) ?_)
              clear hl a; intro a hl
              refine wl (w_buildSlice hl hh rfl trivial app51 zero61 rfl rfl rfl rfl rfl (by simp only [fillL, arrPl, List.range_succ, List.range_zero, List.map_cons, List.map_nil, List.map_append, List.nil_append, List.replicate_succ, List.replicate_zero, List.flatten_cons, List.flatten_nil, Nat.zero_mul, Nat.mul_one, Nat.one_mul, Nat.reduceMul, setL, List.getElem?_cons_zero, List.getElem?_cons_succ, Value.cells, List.take_zero, List.take_succ_cons, List.take_nil, List.drop_zero, List.drop_succ_cons, List.drop_nil, List.length_cons, List.length_nil, List.cons_append, List.nil_append, List.append_nil, Nat.zero_add, Nat.add_zero, Nat.reduceAdd, Nat.reduceBEq, Nat.reduceEqDiff, Nat.ble, BEq.rfl, Bool.and_true, Bool.and_self, cond_true, beq_self_eq_true]; rfl) ?_)
              clear hl hh a w; intro k62 a w hl hh
              refine wl (w_append (news := [.int .i64 (i : Int), .int .i64 (l : Int)]) hl hh rfl trivial app51 rfl rfl rfl hrowN (by repeat (first | exact keeps_left | apply keeps_mv)) (hh.mem _ _ (Find.mem (by repeat (first | exact find_head | apply find_tail)))) rfl rfl rfl (by omega) (by omega) (by omega) (by decide) ?_)
              clear hl hh a w; intro rv2 E2 a w hR2 hl hh
              have hh3 := hh.comm; clear hh; have hh := hh3; clear hh3
              simp only [List.cons_append, List.nil_append] at hh
              refine wl (wl_val hl rfl trivial (r_assign hl rfl) ?_)
              clear hl a; intro a hl
              refine w_nil ?_
              have hl2 := hl.add (t := 0) (hl.add (t := 1) (hl.add (t := 4) (hl.add (t := 5) (hl.add (t := 6) (hl.add (t := 7) (hl.add (t := 12) (hl.add (t := 13) (hl.add (t := 22) (hl.add (t := 23) (hl.add (t := 24) (hl.nil) rfl) rfl) rfl) rfl) rfl) rfl) rfl) rfl) rfl) rfl) rfl; clear hl; have hl := hl2; clear hl2
              refine blk_normal ?_
              refine then_normal ?_
              refine c_region ?_
              first | refine wl (wl_val hl rfl trivial (r_add hl rfl rfl (by simp only [Fits]; omega)) ?_) | refine wl (wl_val hl rfl trivial (r_addW hl rfl rfl) ?_)
              clear hl a; intro a hl
              refine wl (wl_val hl rfl trivial (r_move hl rfl) ?_)
              clear hl a; intro a hl
              refine w_nil ?_
              have hl2 := hl.add (t := 0) (hl.add (t := 1) (hl.add (t := 4) (hl.add (t := 5) (hl.add (t := 6) (hl.add (t := 7) (hl.add (t := 12) (hl.add (t := 13) (hl.add (t := 22) (hl.add (t := 23) (hl.add (t := 24) (hl.nil) rfl) rfl) rfl) rfl) rfl) rfl) rfl) rfl) rfl) rfl) rfl; clear hl; have hl := hl2; clear hl2
              refine then_normal ?_
              skip
              first | refine ⟨⟨l + 1, ([xa, xb], [(i, l)]), rv2, E2, es, .slice (some ⟨rb, 0, none⟩) 2 rc, E ++ Fo⟩, (by simp only; omega), ⟨by show (l + 1 ≤ X.n); omega, (by rw [innerP_succ _ _ _ _ _ hp, ← hac]; first | (rw [ls_first hpl2 he0, hrd2]) | (rw [ls_lt hpl2 hne0 (by rw [hcp]; omega), hrd2])), (by have := hR2; simpa [fl, pkc] using this), rfl, (by show 1 ≤ i * X.n + (l + 1); omega), fun _ => ⟨rfl, rb, rc, rj, xa, xb, rfl, rfl, List.mem_append_right _ (by rw [hFo]; simp)⟩⟩, hl.addE (t := 24) (hl.addE (t := 5) (hl.addE (t := 0) (hl.addE (t := 1) (hl.addE (t := 4) (hl.addE (t := 6) (hl.addE (t := 7) (hl.addE (t := 12) (hl.addE (t := 13) (hl.addE (t := 22) (hl.addE (t := 23) (hl.nil) rfl (by first | rfl | rfl)) rfl (by first | rfl | rfl)) rfl (by first | rfl | rfl)) rfl (by first | rfl | rfl)) rfl (by first | rfl | rfl)) rfl (by first | rfl | rfl)) rfl (by first | rfl | rfl)) rfl (by first | rfl | rfl)) rfl (by first | rfl | rfl)) rfl (by first | rfl | rfl)) rfl (by first | rfl | rfl), hh.keep (by repeat (first | exact keeps_nil | apply keeps_cons (by repeat (first | exact find_head | apply find_tail)) (by first  | rfl) | exact keeps_self | exact keeps_left | exact keeps_right | exact keeps_swap | apply keeps_mv))⟩ | refine ⟨⟨l + 1, (ac.1, ac.2 ++ [(i, l)]), rv2, E2, es, .slice (some ⟨lb, 0, none⟩) 2 lcp, E ++ Fo⟩, (by simp only; omega), ⟨by show (l + 1 ≤ X.n); omega, (by rw [innerP_succ _ _ _ _ _ hp, ← hac, ls_eq hpl2 hne0 (by rw [hcp]; omega)]), (by have := hR2; show Row rv2 (ac.2 ++ [(i, l)]).length (fl pkc (ac.2 ++ [(i, l)])) 2 61 E2; rw [List.length_append, fl_append]; simpa [fl, pkc] using this), hone1, (by show (ac.2 ++ [(i, l)]).length ≤ i * X.n + (l + 1); rw [List.length_append]; simp only [List.length_singleton]; omega), fun _ => ⟨rfl, lb, lcp, jl, lx, ly, rfl, hax, List.mem_append_left _ hlm⟩⟩, hl.addE (t := 24) (hl.addE (t := 5) (hl.addE (t := 0) (hl.addE (t := 1) (hl.addE (t := 4) (hl.addE (t := 6) (hl.addE (t := 7) (hl.addE (t := 12) (hl.addE (t := 13) (hl.addE (t := 22) (hl.addE (t := 23) (hl.nil) rfl (by first | rfl | rfl)) rfl (by first | rfl | rfl)) rfl (by first | rfl | rfl)) rfl (by first | rfl | rfl)) rfl (by first | rfl | rfl)) rfl (by first | rfl | rfl)) rfl (by first | rfl | rfl)) rfl (by first | rfl | rfl)) rfl (by first | rfl | rfl)) rfl (by first | rfl | rfl)) rfl (by first | rfl | rfl), hh.keep (by repeat (first | exact keeps_nil | apply keeps_cons (by repeat (first | exact find_head | apply find_tail)) (by first  | rfl) | exact keeps_self | exact keeps_left | exact keeps_right | exact keeps_swap | apply keeps_mv))⟩ | refine ⟨⟨l + 1, ac, .slice pp ac.2.length pc, Ep, es, .slice (some ⟨lb, 0, none⟩) 2 lcp, E ++ Fo⟩, (by simp only; omega), ⟨by show (l + 1 ≤ X.n); omega, (by rw [innerP_succ _ _ _ _ _ hp, ← hac, ls_gt hpl2 hne0 (by rw [hcp]; omega)]), hrow, hone1, (by show ac.2.length ≤ i * X.n + (l + 1); omega), fun _ => ⟨rfl, lb, lcp, jl, lx, ly, rfl, hax, List.mem_append_left _ hlm⟩⟩, hl.addE (t := 24) (hl.addE (t := 5) (hl.addE (t := 0) (hl.addE (t := 1) (hl.addE (t := 4) (hl.addE (t := 6) (hl.addE (t := 7) (hl.addE (t := 12) (hl.addE (t := 13) (hl.addE (t := 22) (hl.addE (t := 23) (hl.nil) rfl (by first | rfl | rfl)) rfl (by first | rfl | rfl)) rfl (by first | rfl | rfl)) rfl (by first | rfl | rfl)) rfl (by first | rfl | rfl)) rfl (by first | rfl | rfl)) rfl (by first | rfl | rfl)) rfl (by first | rfl | rfl)) rfl (by first | rfl | rfl)) rfl (by first | rfl | rfl)) rfl (by first | rfl | rfl), hh.keep (by repeat (first | exact keeps_nil | apply keeps_cons (by repeat (first | exact find_head | apply find_tail)) (by first  | rfl) | exact keeps_self | exact keeps_left | exact keeps_right | exact keeps_swap | apply keeps_mv))⟩ | refine ⟨⟨l + 1, ac, .slice pp ac.2.length pc, Ep, ks, kl, E⟩, (by simp only; omega), ⟨by show (l + 1 ≤ X.n); omega, (by rw [innerP_succ _ _ _ _ _ hp, ← hac, ls_placed hpl2]), hrow, hone1, (by show ac.2.length ≤ i * X.n + (l + 1); omega), hll⟩, hl.addE (t := 24) (hl.addE (t := 5) (hl.addE (t := 0) (hl.addE (t := 1) (hl.addE (t := 4) (hl.addE (t := 6) (hl.addE (t := 7) (hl.addE (t := 12) (hl.addE (t := 13) (hl.addE (t := 22) (hl.addE (t := 23) (hl.nil) rfl (by first | rfl | rfl)) rfl (by first | rfl | rfl)) rfl (by first | rfl | rfl)) rfl (by first | rfl | rfl)) rfl (by first | rfl | rfl)) rfl (by first | rfl | rfl)) rfl (by first | rfl | rfl)) rfl (by first | rfl | rfl)) rfl (by first | rfl | rfl)) rfl (by first | rfl | rfl)) rfl (by first | rfl | rfl), hh.keep (by repeat (first | exact keeps_nil | apply keeps_cons (by repeat (first | exact find_head | apply find_tail)) (by first  | rfl) | exact keeps_self | exact keeps_left | exact keeps_right | exact keeps_swap | apply keeps_mv))⟩ | (exfalso; omega)
            · intro hc5
              try simp only [decide_eq_true_eq, decide_eq_false_iff_not, Bool.not_eq_true', Bool.not_eq_false', Bool.not_eq_true, Bool.not_eq_false, Bool.and_eq_true, Bool.or_eq_true, Bool.and_eq_false_iff, Bool.or_eq_false_iff, Bool.not_not, ne_eq, Int.not_lt, Int.not_le, Decidable.not_not, beq_iff_eq, bne_iff_ne] at hc5
              refine wp_skip ?_
              refine blk_normal ?_
              refine then_normal ?_
              refine c_region ?_
              first | refine wl (wl_val hl rfl trivial (r_add hl rfl rfl (by simp only [Fits]; omega)) ?_) | refine wl (wl_val hl rfl trivial (r_addW hl rfl rfl) ?_)
              clear hl a; intro a hl
              refine wl (wl_val hl rfl trivial (r_move hl rfl) ?_)
              clear hl a; intro a hl
              refine w_nil ?_
              have hl2 := hl.add (t := 0) (hl.add (t := 1) (hl.add (t := 4) (hl.add (t := 5) (hl.add (t := 6) (hl.add (t := 7) (hl.add (t := 12) (hl.add (t := 13) (hl.add (t := 22) (hl.add (t := 23) (hl.add (t := 24) (hl.nil) rfl) rfl) rfl) rfl) rfl) rfl) rfl) rfl) rfl) rfl) rfl; clear hl; have hl := hl2; clear hl2
              refine then_normal ?_
              skip
              first | refine ⟨⟨l + 1, ([xa, xb], [(i, l)]), rv2, E2, es, .slice (some ⟨rb, 0, none⟩) 2 rc, E ++ Fo⟩, (by simp only; omega), ⟨by show (l + 1 ≤ X.n); omega, (by rw [innerP_succ _ _ _ _ _ hp, ← hac]; first | (rw [ls_first hpl2 he0, hrd2]) | (rw [ls_lt hpl2 hne0 (by rw [hcp]; omega), hrd2])), (by have := hR2; simpa [fl, pkc] using this), rfl, (by show 1 ≤ i * X.n + (l + 1); omega), fun _ => ⟨rfl, rb, rc, rj, xa, xb, rfl, rfl, List.mem_append_right _ (by rw [hFo]; simp)⟩⟩, hl.addE (t := 24) (hl.addE (t := 5) (hl.addE (t := 0) (hl.addE (t := 1) (hl.addE (t := 4) (hl.addE (t := 6) (hl.addE (t := 7) (hl.addE (t := 12) (hl.addE (t := 13) (hl.addE (t := 22) (hl.addE (t := 23) (hl.nil) rfl (by first | rfl | rfl)) rfl (by first | rfl | rfl)) rfl (by first | rfl | rfl)) rfl (by first | rfl | rfl)) rfl (by first | rfl | rfl)) rfl (by first | rfl | rfl)) rfl (by first | rfl | rfl)) rfl (by first | rfl | rfl)) rfl (by first | rfl | rfl)) rfl (by first | rfl | rfl)) rfl (by first | rfl | rfl), hh.keep (by repeat (first | exact keeps_nil | apply keeps_cons (by repeat (first | exact find_head | apply find_tail)) (by first  | rfl) | exact keeps_self | exact keeps_left | exact keeps_right | exact keeps_swap | apply keeps_mv))⟩ | refine ⟨⟨l + 1, (ac.1, ac.2 ++ [(i, l)]), rv2, E2, es, .slice (some ⟨lb, 0, none⟩) 2 lcp, E ++ Fo⟩, (by simp only; omega), ⟨by show (l + 1 ≤ X.n); omega, (by rw [innerP_succ _ _ _ _ _ hp, ← hac, ls_eq hpl2 hne0 (by rw [hcp]; omega)]), (by have := hR2; show Row rv2 (ac.2 ++ [(i, l)]).length (fl pkc (ac.2 ++ [(i, l)])) 2 61 E2; rw [List.length_append, fl_append]; simpa [fl, pkc] using this), hone1, (by show (ac.2 ++ [(i, l)]).length ≤ i * X.n + (l + 1); rw [List.length_append]; simp only [List.length_singleton]; omega), fun _ => ⟨rfl, lb, lcp, jl, lx, ly, rfl, hax, List.mem_append_left _ hlm⟩⟩, hl.addE (t := 24) (hl.addE (t := 5) (hl.addE (t := 0) (hl.addE (t := 1) (hl.addE (t := 4) (hl.addE (t := 6) (hl.addE (t := 7) (hl.addE (t := 12) (hl.addE (t := 13) (hl.addE (t := 22) (hl.addE (t := 23) (hl.nil) rfl (by first | rfl | rfl)) rfl (by first | rfl | rfl)) rfl (by first | rfl | rfl)) rfl (by first | rfl | rfl)) rfl (by first | rfl | rfl)) rfl (by first | rfl | rfl)) rfl (by first | rfl | rfl)) rfl (by first | rfl | rfl)) rfl (by first | rfl | rfl)) rfl (by first | rfl | rfl)) rfl (by first | rfl | rfl), hh.keep (by repeat (first | exact keeps_nil | apply keeps_cons (by repeat (first | exact find_head | apply find_tail)) (by first  | rfl) | exact keeps_self | exact keeps_left | exact keeps_right | exact keeps_swap | apply keeps_mv))⟩ | refine ⟨⟨l + 1, ac, .slice pp ac.2.length pc, Ep, es, .slice (some ⟨lb, 0, none⟩) 2 lcp, E ++ Fo⟩, (by simp only; omega), ⟨by show (l + 1 ≤ X.n); omega, (by rw [innerP_succ _ _ _ _ _ hp, ← hac, ls_gt hpl2 hne0 (by rw [hcp]; omega)]), hrow, hone1, (by show ac.2.length ≤ i * X.n + (l + 1); omega), fun _ => ⟨rfl, lb, lcp, jl, lx, ly, rfl, hax, List.mem_append_left _ hlm⟩⟩, hl.addE (t := 24) (hl.addE (t := 5) (hl.addE (t := 0) (hl.addE (t := 1) (hl.addE (t := 4) (hl.addE (t := 6) (hl.addE (t := 7) (hl.addE (t := 12) (hl.addE (t := 13) (hl.addE (t := 22) (hl.addE (t := 23) (hl.nil) rfl (by first | rfl | rfl)) rfl (by first | rfl | rfl)) rfl (by first | rfl | rfl)) rfl (by first | rfl | rfl)) rfl (by first | rfl | rfl)) rfl (by first | rfl | rfl)) rfl (by first | rfl | rfl)) rfl (by first | rfl | rfl)) rfl (by first | rfl | rfl)) rfl (by first | rfl | rfl)) rfl (by first | rfl | rfl), hh.keep (by repeat (first | exact keeps_nil | apply keeps_cons (by repeat (first | exact find_head | apply find_tail)) (by first  | rfl) | exact keeps_self | exact keeps_left | exact keeps_right | exact keeps_swap | apply keeps_mv))⟩ | refine ⟨⟨l + 1, ac, .slice pp ac.2.length pc, Ep, ks, kl, E⟩, (by simp only; omega), ⟨by show (l + 1 ≤ X.n); omega, (by rw [innerP_succ _ _ _ _ _ hp, ← hac, ls_placed hpl2]), hrow, hone1, (by show ac.2.length ≤ i * X.n + (l + 1); omega), hll⟩, hl.addE (t := 24) (hl.addE (t := 5) (hl.addE (t := 0) (hl.addE (t := 1) (hl.addE (t := 4) (hl.addE (t := 6) (hl.addE (t := 7) (hl.addE (t := 12) (hl.addE (t := 13) (hl.addE (t := 22) (hl.addE (t := 23) (hl.nil) rfl (by first | rfl | rfl)) rfl (by first | rfl | rfl)) rfl (by first | rfl | rfl)) rfl (by first | rfl | rfl)) rfl (by first | rfl | rfl)) rfl (by first | rfl | rfl)) rfl (by first | rfl | rfl)) rfl (by first | rfl | rfl)) rfl (by first | rfl | rfl)) rfl (by first | rfl | rfl)) rfl (by first | rfl | rfl), hh.keep (by repeat (first | exact keeps_nil | apply keeps_cons (by repeat (first | exact find_head | apply find_tail)) (by first  | rfl) | exact keeps_self | exact keeps_left | exact keeps_right | exact keeps_swap | apply keeps_mv))⟩ | (exfalso; omega)
          · intro hc4
            try simp only [decide_eq_true_eq, decide_eq_false_iff_not, Bool.not_eq_true', Bool.not_eq_false', Bool.not_eq_true, Bool.not_eq_false, Bool.and_eq_true, Bool.or_eq_true, Bool.and_eq_false_iff, Bool.or_eq_false_iff, Bool.not_not, ne_eq, Int.not_lt, Int.not_le, Decidable.not_not, beq_iff_eq, bne_iff_ne] at hc4
            have hrowN := hrow
            refine wp_skip ?_
            refine then_normal ?_
            refine c_seq ?_
            refine c_region ?_
            refine wl (wl_val hl rfl trivial (r_move hl rfl) ?_)
            clear hl a; intro a hl
            refine wl (wl_val hl rfl trivial (r_leq hl rfl rfl) ?_)
            clear hl a; intro a hl
            refine w_nil ?_
            have hl2 := hl.add (t := 0) (hl.add (t := 1) (hl.add (t := 4) (hl.add (t := 5) (hl.add (t := 6) (hl.add (t := 7) (hl.add (t := 8) (hl.add (t := 12) (hl.add (t := 13) (hl.add (t := 22) (hl.add (t := 23) (hl.add (t := 24) (hl.add (t := 57) (hl.nil) rfl) rfl) rfl) rfl) rfl) rfl) rfl) rfl) rfl) rfl) rfl) rfl) rfl; clear hl; have hl := hl2; clear hl2
            refine then_normal ?_
            refine c_cond hl rfl ?_ ?_
            · intro hc5
              try simp only [decide_eq_true_eq, decide_eq_false_iff_not, Bool.not_eq_true', Bool.not_eq_false', Bool.not_eq_true, Bool.not_eq_false, Bool.and_eq_true, Bool.or_eq_true, Bool.and_eq_false_iff, Bool.or_eq_false_iff, Bool.not_not, ne_eq, Int.not_lt, Int.not_le, Decidable.not_not, beq_iff_eq, bne_iff_ne] at hc5
              refine c_region ?_
              refine wl (wl_val hl rfl trivial (r_move hl rfl) ?_)
              clear hl a; intro a hl
              refine wl (wl_val hl rfl trivial (r_move hl rfl) ?_)
              clear hl a; intro a hl
              refine wl (wl_val hl rfl trivial (r_move hl rfl) ?_)
              clear hl a; intro a hl
              refine wl (wl_val hl rfl trivial (r_build hl rfl zero61 bld61 (by simp only [fillL, setL, List.getElem?_cons_zero, List.getElem?_cons_succ, Value.cells, List.take_zero, List.take_succ_cons, List.take_nil, List.drop_zero, List.drop_succ_cons, List.drop_nil, List.length_cons, List.length_nil, List.cons_append, List.nil_append, List.append_nil, Nat.zero_add, Nat.add_zero, Nat.reduceAdd, Nat.reduceBEq, Nat.reduceEqDiff, Nat.ble, BEq.rfl, Bool.and_true, Bool.and_self, cond_true, beq_self_eq_true]; rfl)) ?_)
              clear hl a; intro a hl
              refine wl (w_buildSlice hl hh rfl trivial app51 zero61 rfl rfl rfl rfl rfl (by simp only [fillL, arrPl, List.range_succ, List.range_zero, List.map_cons, List.map_nil, List.map_append, List.nil_append, List.replicate_succ, List.replicate_zero, List.flatten_cons, List.flatten_nil, Nat.zero_mul, Nat.mul_one, Nat.one_mul, Nat.reduceMul, setL, List.getElem?_cons_zero, List.getElem?_cons_succ, Value.cells, List.take_zero, List.take_succ_cons, List.take_nil, List.drop_zero, List.drop_succ_cons, List.drop_nil, List.length_cons, List.length_nil, List.cons_append, List.nil_append, List.append_nil, Nat.zero_add, Nat.add_zero, Nat.reduceAdd, Nat.reduceBEq, Nat.reduceEqDiff, Nat.ble, BEq.rfl, Bool.and_true, Bool.and_self, cond_true, beq_self_eq_true]; rfl) ?_)
              clear hl hh a w; intro k62 a w hl hh
              refine wl (w_append (news := [.int .i64 (i : Int), .int .i64 (l : Int)]) hl hh rfl trivial app51 rfl rfl rfl hrowN (by repeat (first | exact keeps_left | apply keeps_mv)) (hh.mem _ _ (Find.mem (by repeat (first | exact find_head | apply find_tail)))) rfl rfl rfl (by omega) (by omega) (by omega) (by decide) ?_)
              clear hl hh a w; intro rv2 E2 a w hR2 hl hh
              have hh3 := hh.comm; clear hh; have hh := hh3; clear hh3
              simp only [List.cons_append, List.nil_append] at hh
              refine wl (wl_val hl rfl trivial (r_assign hl rfl) ?_)
              clear hl a; intro a hl
              refine w_nil ?_
              have hl2 := hl.add (t := 0) (hl.add (t := 1) (hl.add (t := 4) (hl.add (t := 5) (hl.add (t := 6) (hl.add (t := 7) (hl.add (t := 12) (hl.add (t := 13) (hl.add (t := 22) (hl.add (t := 23) (hl.add (t := 24) (hl.nil) rfl) rfl) rfl) rfl) rfl) rfl) rfl) rfl) rfl) rfl) rfl; clear hl; have hl := hl2; clear hl2
              refine blk_normal ?_
              refine then_normal ?_
              refine c_region ?_
              first | refine wl (wl_val hl rfl trivial (r_add hl rfl rfl (by simp only [Fits]; omega)) ?_) | refine wl (wl_val hl rfl trivial (r_addW hl rfl rfl) ?_)
              clear hl a; intro a hl
              refine wl (wl_val hl rfl trivial (r_move hl rfl) ?_)
              clear hl a; intro a hl
              refine w_nil ?_
              have hl2 := hl.add (t := 0) (hl.add (t := 1) (hl.add (t := 4) (hl.add (t := 5) (hl.add (t := 6) (hl.add (t := 7) (hl.add (t := 12) (hl.add (t := 13) (hl.add (t := 22) (hl.add (t := 23) (hl.add (t := 24) (hl.nil) rfl) rfl) rfl) rfl) rfl) rfl) rfl) rfl) rfl) rfl) rfl; clear hl; have hl := hl2; clear hl2
              refine then_normal ?_
              skip
              first | refine ⟨⟨l + 1, ([xa, xb], [(i, l)]), rv2, E2, es, .slice (some ⟨rb, 0, none⟩) 2 rc, E ++ Fo⟩, (by simp only; omega), ⟨by show (l + 1 ≤ X.n); omega, (by rw [innerP_succ _ _ _ _ _ hp, ← hac]; first | (rw [ls_first hpl2 he0, hrd2]) | (rw [ls_lt hpl2 hne0 (by rw [hcp]; omega), hrd2])), (by have := hR2; simpa [fl, pkc] using this), rfl, (by show 1 ≤ i * X.n + (l + 1); omega), fun _ => ⟨rfl, rb, rc, rj, xa, xb, rfl, rfl, List.mem_append_right _ (by rw [hFo]; simp)⟩⟩, hl.addE (t := 24) (hl.addE (t := 5) (hl.addE (t := 0) (hl.addE (t := 1) (hl.addE (t := 4) (hl.addE (t := 6) (hl.addE (t := 7) (hl.addE (t := 12) (hl.addE (t := 13) (hl.addE (t := 22) (hl.addE (t := 23) (hl.nil) rfl (by first | rfl | rfl)) rfl (by first | rfl | rfl)) rfl (by first | rfl | rfl)) rfl (by first | rfl | rfl)) rfl (by first | rfl | rfl)) rfl (by first | rfl | rfl)) rfl (by first | rfl | rfl)) rfl (by first | rfl | rfl)) rfl (by first | rfl | rfl)) rfl (by first | rfl | rfl)) rfl (by first | rfl | rfl), hh.keep (by repeat (first | exact keeps_nil | apply keeps_cons (by repeat (first | exact find_head | apply find_tail)) (by first  | rfl) | exact keeps_self | exact keeps_left | exact keeps_right | exact keeps_swap | apply keeps_mv))⟩ | refine ⟨⟨l + 1, (ac.1, ac.2 ++ [(i, l)]), rv2, E2, es, .slice (some ⟨lb, 0, none⟩) 2 lcp, E ++ Fo⟩, (by simp only; omega), ⟨by show (l + 1 ≤ X.n); omega, (by rw [innerP_succ _ _ _ _ _ hp, ← hac, ls_eq hpl2 hne0 (by rw [hcp]; omega)]), (by have := hR2; show Row rv2 (ac.2 ++ [(i, l)]).length (fl pkc (ac.2 ++ [(i, l)])) 2 61 E2; rw [List.length_append, fl_append]; simpa [fl, pkc] using this), hone1, (by show (ac.2 ++ [(i, l)]).length ≤ i * X.n + (l + 1); rw [List.length_append]; simp only [List.length_singleton]; omega), fun _ => ⟨rfl, lb, lcp, jl, lx, ly, rfl, hax, List.mem_append_left _ hlm⟩⟩, hl.addE (t := 24) (hl.addE (t := 5) (hl.addE (t := 0) (hl.addE (t := 1) (hl.addE (t := 4) (hl.addE (t := 6) (hl.addE (t := 7) (hl.addE (t := 12) (hl.addE (t := 13) (hl.addE (t := 22) (hl.addE (t := 23) (hl.nil) rfl (by first | rfl | rfl)) rfl (by first | rfl | rfl)) rfl (by first | rfl | rfl)) rfl (by first | rfl | rfl)) rfl (by first | rfl | rfl)) rfl (by first | rfl | rfl)) rfl (by first | rfl | rfl)) rfl (by first | rfl | rfl)) rfl (by first | rfl | rfl)) rfl (by first | rfl | rfl)) rfl (by first | rfl | rfl), hh.keep (by repeat (first | exact keeps_nil | apply keeps_cons (by repeat (first | exact find_head | apply find_tail)) (by first  | rfl) | exact keeps_self | exact keeps_left | exact keeps_right | exact keeps_swap | apply keeps_mv))⟩ | refine ⟨⟨l + 1, ac, .slice pp ac.2.length pc, Ep, es, .slice (some ⟨lb, 0, none⟩) 2 lcp, E ++ Fo⟩, (by simp only; omega), ⟨by show (l + 1 ≤ X.n); omega, (by rw [innerP_succ _ _ _ _ _ hp, ← hac, ls_gt hpl2 hne0 (by rw [hcp]; omega)]), hrow, hone1, (by show ac.2.length ≤ i * X.n + (l + 1); omega), fun _ => ⟨rfl, lb, lcp, jl, lx, ly, rfl, hax, List.mem_append_left _ hlm⟩⟩, hl.addE (t := 24) (hl.addE (t := 5) (hl.addE (t := 0) (hl.addE (t := 1) (hl.addE (t := 4) (hl.addE (t := 6) (hl.addE (t := 7) (hl.addE (t := 12) (hl.addE (t := 13) (hl.addE (t := 22) (hl.addE (t := 23) (hl.nil) rfl (by first | rfl | rfl)) rfl (by first | rfl | rfl)) rfl (by first | rfl | rfl)) rfl (by first | rfl | rfl)) rfl (by first | rfl | rfl)) rfl (by first | rfl | rfl)) rfl (by first | rfl | rfl)) rfl (by first | rfl | rfl)) rfl (by first | rfl | rfl)) rfl (by first | rfl | rfl)) rfl (by first | rfl | rfl), hh.keep (by repeat (first | exact keeps_nil | apply keeps_cons (by repeat (first | exact find_head | apply find_tail)) (by first  | rfl) | exact keeps_self | exact keeps_left | exact keeps_right | exact keeps_swap | apply keeps_mv))⟩ | refine ⟨⟨l + 1, ac, .slice pp ac.2.length pc, Ep, ks, kl, E⟩, (by simp only; omega), ⟨by show (l + 1 ≤ X.n); omega, (by rw [innerP_succ _ _ _ _ _ hp, ← hac, ls_placed hpl2]), hrow, hone1, (by show ac.2.length ≤ i * X.n + (l + 1); omega), hll⟩, hl.addE (t := 24) (hl.addE (t := 5) (hl.addE (t := 0) (hl.addE (t := 1) (hl.addE (t := 4) (hl.addE (t := 6) (hl.addE (t := 7) (hl.addE (t := 12) (hl.addE (t := 13) (hl.addE (t := 22) (hl.addE (t := 23) (hl.nil) rfl (by first | rfl | rfl)) rfl (by first | rfl | rfl)) rfl (by first | rfl | rfl)) rfl (by first | rfl | rfl)) rfl (by first | rfl | rfl)) rfl (by first | rfl | rfl)) rfl (by first | rfl | rfl)) rfl (by first | rfl | rfl)) rfl (by first | rfl | rfl)) rfl (by first | rfl | rfl)) rfl (by first | rfl | rfl), hh.keep (by repeat (first | exact keeps_nil | apply keeps_cons (by repeat (first | exact find_head | apply find_tail)) (by first  | rfl) | exact keeps_self | exact keeps_left | exact keeps_right | exact keeps_swap | apply keeps_mv))⟩ | (exfalso; omega)
            · intro hc5
              try simp only [decide_eq_true_eq, decide_eq_false_iff_not, Bool.not_eq_true', Bool.not_eq_false', Bool.not_eq_true, Bool.not_eq_false, Bool.and_eq_true, Bool.or_eq_true, Bool.and_eq_false_iff, Bool.or_eq_false_iff, Bool.not_not, ne_eq, Int.not_lt, Int.not_le, Decidable.not_not, beq_iff_eq, bne_iff_ne] at hc5
              refine wp_skip ?_
              refine blk_normal ?_
              refine then_normal ?_
              refine c_region ?_
              first | refine wl (wl_val hl rfl trivial (r_add hl rfl rfl (by simp only [Fits]; omega)) ?_) | refine wl (wl_val hl rfl trivial (r_addW hl rfl rfl) ?_)
              clear hl a; intro a hl
              refine wl (wl_val hl rfl trivial (r_move hl rfl) ?_)
              clear hl a; intro a hl
              refine w_nil ?_
              have hl2 := hl.add (t := 0) (hl.add (t := 1) (hl.add (t := 4) (hl.add (t := 5) (hl.add (t := 6) (hl.add (t := 7) (hl.add (t := 12) (hl.add (t := 13) (hl.add (t := 22) (hl.add (t := 23) (hl.add (t := 24) (hl.nil) rfl) rfl) rfl) rfl) rfl) rfl) rfl) rfl) rfl) rfl) rfl; clear hl; have hl := hl2; clear hl2
              refine then_normal ?_
              skip
              first | refine ⟨⟨l + 1, ([xa, xb], [(i, l)]), rv2, E2, es, .slice (some ⟨rb, 0, none⟩) 2 rc, E ++ Fo⟩, (by simp only; omega), ⟨by show (l + 1 ≤ X.n); omega, (by rw [innerP_succ _ _ _ _ _ hp, ← hac]; first | (rw [ls_first hpl2 he0, hrd2]) | (rw [ls_lt hpl2 hne0 (by rw [hcp]; omega), hrd2])), (by have := hR2; simpa [fl, pkc] using this), rfl, (by show 1 ≤ i * X.n + (l + 1); omega), fun _ => ⟨rfl, rb, rc, rj, xa, xb, rfl, rfl, List.mem_append_right _ (by rw [hFo]; simp)⟩⟩, hl.addE (t := 24) (hl.addE (t := 5) (hl.addE (t := 0) (hl.addE (t := 1) (hl.addE (t := 4) (hl.addE (t := 6) (hl.addE (t := 7) (hl.addE (t := 12) (hl.addE (t := 13) (hl.addE (t := 22) (hl.addE (t := 23) (hl.nil) rfl (by first | rfl | rfl)) rfl (by first | rfl | rfl)) rfl (by first | rfl | rfl)) rfl (by first | rfl | rfl)) rfl (by first | rfl | rfl)) rfl (by first | rfl | rfl)) rfl (by first | rfl | rfl)) rfl (by first | rfl | rfl)) rfl (by first | rfl | rfl)) rfl (by first | rfl | rfl)) rfl (by first | rfl | rfl), hh.keep (by repeat (first | exact keeps_nil | apply keeps_cons (by repeat (first | exact find_head | apply find_tail)) (by first  | rfl) | exact keeps_self | exact keeps_left | exact keeps_right | exact keeps_swap | apply keeps_mv))⟩ | refine ⟨⟨l + 1, (ac.1, ac.2 ++ [(i, l)]), rv2, E2, es, .slice (some ⟨lb, 0, none⟩) 2 lcp, E ++ Fo⟩, (by simp only; omega), ⟨by show (l + 1 ≤ X.n); omega, (by rw [innerP_succ _ _ _ _ _ hp, ← hac, ls_eq hpl2 hne0 (by rw [hcp]; omega)]), (by have := hR2; show Row rv2 (ac.2 ++ [(i, l)]).length (fl pkc (ac.2 ++ [(i, l)])) 2 61 E2; rw [List.length_append, fl_append]; simpa [fl, pkc] using this), hone1, (by show (ac.2 ++ [(i, l)]).length ≤ i * X.n + (l + 1); rw [List.length_append]; simp only [List.length_singleton]; omega), fun _ => ⟨rfl, lb, lcp, jl, lx, ly, rfl, hax, List.mem_append_left _ hlm⟩⟩, hl.addE (t := 24) (hl.addE (t := 5) (hl.addE (t := 0) (hl.addE (t := 1) (hl.addE (t := 4) (hl.addE (t := 6) (hl.addE (t := 7) (hl.addE (t := 12) (hl.addE (t := 13) (hl.addE (t := 22) (hl.addE (t := 23) (hl.nil) rfl (by first | rfl | rfl)) rfl (by first | rfl | rfl)) rfl (by first | rfl | rfl)) rfl (by first | rfl | rfl)) rfl (by first | rfl | rfl)) rfl (by first | rfl | rfl)) rfl (by first | rfl | rfl)) rfl (by first | rfl | rfl)) rfl (by first | rfl | rfl)) rfl (by first | rfl | rfl)) rfl (by first | rfl | rfl), hh.keep (by repeat (first | exact keeps_nil | apply keeps_cons (by repeat (first | exact find_head | apply find_tail)) (by first  | rfl) | exact keeps_self | exact keeps_left | exact keeps_right | exact keeps_swap | apply keeps_mv))⟩ | refine ⟨⟨l + 1, ac, .slice pp ac.2.length pc, Ep, es, .slice (some ⟨lb, 0, none⟩) 2 lcp, E ++ Fo⟩, (by simp only; omega), ⟨by show (l + 1 ≤ X.n); omega, (by rw [innerP_succ _ _ _ _ _ hp, ← hac, ls_gt hpl2 hne0 (by rw [hcp]; omega)]), hrow, hone1, (by show ac.2.length ≤ i * X.n + (l + 1); omega), fun _ => ⟨rfl, lb, lcp, jl, lx, ly, rfl, hax, List.mem_append_left _ hlm⟩⟩, hl.addE (t := 24) (hl.addE (t := 5) (hl.addE (t := 0) (hl.addE (t := 1) (hl.addE (t := 4) (hl.addE (t := 6) (hl.addE (t := 7) (hl.addE (t := 12) (hl.addE (t := 13) (hl.addE (t := 22) (hl.addE (t := 23) (hl.nil) rfl (by first | rfl | rfl)) rfl (by first | rfl | rfl)) rfl (by first | rfl | rfl)) rfl (by first | rfl | rfl)) rfl (by first | rfl | rfl)) rfl (by first | rfl | rfl)) rfl (by first | rfl | rfl)) rfl (by first | rfl | rfl)) rfl (by first | rfl | rfl)) rfl (by first | rfl | rfl)) rfl (by first | rfl | rfl), hh.keep (by repeat (first | exact keeps_nil | apply keeps_cons (by repeat (first | exact find_head | apply find_tail)) (by first  | rfl) | exact keeps_self | exact keeps_left | exact keeps_right | exact keeps_swap | apply keeps_mv))⟩ | refine ⟨⟨l + 1, ac, .slice pp ac.2.length pc, Ep, ks, kl, E⟩, (by simp only; omega), ⟨by show (l + 1 ≤ X.n); omega, (by rw [innerP_succ _ _ _ _ _ hp, ← hac, ls_placed hpl2]), hrow, hone1, (by show ac.2.length ≤ i * X.n + (l + 1); omega), hll⟩, hl.addE (t := 24) (hl.addE (t := 5) (hl.addE (t := 0) (hl.addE (t := 1) (hl.addE (t := 4) (hl.addE (t := 6) (hl.addE (t := 7) (hl.addE (t := 12) (hl.addE (t := 13) (hl.addE (t := 22) (hl.addE (t := 23) (hl.nil) rfl (by first | rfl | rfl)) rfl (by first | rfl | rfl)) rfl (by first | rfl | rfl)) rfl (by first | rfl | rfl)) rfl (by first | rfl | rfl)) rfl (by first | rfl | rfl)) rfl (by first | rfl | rfl)) rfl (by first | rfl | rfl)) rfl (by first | rfl | rfl)) rfl (by first | rfl | rfl)) rfl (by first | rfl | rfl), hh.keep (by repeat (first | exact keeps_nil | apply keeps_cons (by repeat (first | exact find_head | apply find_tail)) (by first  | rfl) | exact keeps_self | exact keeps_left | exact keeps_right | exact keeps_swap | apply keeps_mv))⟩ | (exfalso; omega)
        · intro hc3
          try simp only [decide_eq_true_eq, decide_eq_false_iff_not, Bool.not_eq_true', Bool.not_eq_false', Bool.not_eq_true, Bool.not_eq_false, Bool.and_eq_true, Bool.or_eq_true, Bool.and_eq_false_iff, Bool.or_eq_false_iff, Bool.not_not, ne_eq, Int.not_lt, Int.not_le, Decidable.not_not, beq_iff_eq, bne_iff_ne] at hc3
          have he0 : ac.2 = [] := List.eq_nil_of_length_eq_zero (by omega)
          refine wp_skip ?_
          refine then_normal ?_
          refine c_seq ?_
          refine c_seq ?_
          refine c_region ?_
          refine wl (wl_val hl rfl trivial (r_move hl rfl) ?_)
          clear hl a; intro a hl
          refine wl (wl_val hl rfl trivial (r_lss hl rfl rfl) ?_)
          clear hl a; intro a hl
          refine w_nil ?_
          have hl2 := hl.add (t := 0) (hl.add (t := 1) (hl.add (t := 4) (hl.add (t := 5) (hl.add (t := 6) (hl.add (t := 7) (hl.add (t := 8) (hl.add (t := 9) (hl.add (t := 10) (hl.add (t := 12) (hl.add (t := 13) (hl.add (t := 22) (hl.add (t := 23) (hl.add (t := 24) (hl.add (t := 52) (hl.nil) rfl) rfl) rfl) rfl) rfl) rfl) rfl) rfl) rfl) rfl) rfl) rfl) rfl) rfl) rfl; clear hl; have hl := hl2; clear hl2
          refine then_normal ?_
          refine c_cond hl rfl ?_ ?_
          · intro hc4
            try simp only [decide_eq_true_eq, decide_eq_false_iff_not, Bool.not_eq_true', Bool.not_eq_false', Bool.not_eq_true, Bool.not_eq_false, Bool.and_eq_true, Bool.or_eq_true, Bool.and_eq_false_iff, Bool.or_eq_false_iff, Bool.not_not, ne_eq, Int.not_lt, Int.not_le, Decidable.not_not, beq_iff_eq, bne_iff_ne] at hc4
            have hrowN := row_cut0 hrow
            refine c_draw [(k9, C [.int .u8 0, .int .u8 0, .string es, .slice (some ⟨rb, 0, none⟩) 2 rc] 34)] [4] mixed hh ?_
            clear hh w; intro w hh
            have hM : Mem [(k9, C [.int .u8 0, .int .u8 0, .string es, .slice (some ⟨rb, 0, none⟩) 2 rc] 34)] w := (by repeat (first | exact Mem.nil | refine Mem.consR hh (by assumption) (by simp) ?_ | refine Mem.cons hh.mem (by repeat (first | exact find_head | apply find_tail)) ?_))
            refine d_take (i := 0) hl rfl (by kernel_rfl) (by kernel_rfl) (by kernel_rfl) (by kernel_rfl) (by kernel_rfl) rfl trivial (fun _ _ _ h => h) hM (fun w hC => r_loadCA hl rfl agg34 hC (by repeat (first | exact find_head | apply find_tail)) (by first | (simp only [List.getElem?_cons_zero, List.getElem?_cons_succ, Value.cells, List.take_zero, List.take_succ_cons, List.take_nil, List.drop_zero, List.drop_succ_cons, List.drop_nil, List.length_cons, List.length_nil, List.cons_append, List.nil_append, List.append_nil, Nat.zero_add, Nat.add_zero, Nat.reduceAdd, Nat.reduceBEq, Nat.reduceEqDiff, Nat.ble, BEq.rfl, Bool.and_true, Bool.and_self, cond_true, beq_self_eq_true]; rfl)) (by first | rfl | (simp; done))) rfl ?_
            clear hl a; intro a hl
            refine d_take (i := 1) hl rfl (by kernel_rfl) (by kernel_rfl) (by kernel_rfl) (by kernel_rfl) (by kernel_rfl) rfl trivial (fun _ _ _ h => h) hM (fun w hC => r_move hl rfl) rfl ?_
            clear hl a; intro a hl
            refine d_take (i := 2) hl rfl (by kernel_rfl) (by kernel_rfl) (by kernel_rfl) (by kernel_rfl) (by kernel_rfl) rfl trivial (fun _ _ _ h => h) hM (fun w hC => r_sliceS01 (by intro q e; first | (cases e; rfl) | (cases e; done) | exact hpn q e) hl rfl rfl slc51 (by omega) (by first | (simp only [Int.reduceToNat]; rfl) | exact toNat_add1 _ | exact toNat_add2 _ _ | exact toNat_emod _ _ | exact Int.toNat_natCast _ | rfl)) rfl ?_
            clear hl a; intro a hl
            refine d_one (i := 3) (by kernel_rfl) rfl ?_
            try clear hM
            refine id (w_storeA hl hh trivial agg34 rfl rfl (by repeat (first | exact find_head | apply find_tail)) (by first | rfl | (simp; done)) (by first | (simp; done) | (simp; omega)) (by first | rfl | (simp; done) | exact all4 hone1) (by first | (simp only [setL, List.getElem?_cons_zero, List.getElem?_cons_succ, Value.cells, List.take_zero, List.take_succ_cons, List.take_nil, List.drop_zero, List.drop_succ_cons, List.drop_nil, List.length_cons, List.length_nil, List.cons_append, List.nil_append, List.append_nil, Nat.zero_add, Nat.add_zero, Nat.reduceAdd, Nat.reduceBEq, Nat.reduceEqDiff, Nat.ble, BEq.rfl, Bool.and_true, Bool.and_self, cond_true, beq_self_eq_true]; rfl)) ?_)
            clear hh w; intro w hh
            have hM : Mem [(k9, C [.int .u8 0, .int .u8 0, .string es, .slice (some ⟨rb, 0, none⟩) 2 rc] 34)] w := (by repeat (first | exact Mem.nil | refine Mem.consR hh (by assumption) (by simp) ?_ | refine Mem.cons hh.mem (by repeat (first | exact find_head | apply find_tail)) ?_))
            refine d_step (fun _ => hM) ?_
            refine d_takeL (i := 4) hl rfl (by kernel_rfl) (by kernel_rfl) (by kernel_rfl) (by kernel_rfl) (by kernel_rfl) rfl trivial (fun _ _ _ h => h) (fun w => r_assign hl rfl) rfl ?_
            clear hl a; intro a hl
            refine d_done (by kernel_rfl) ?_
            try clear hM
            have hl2 := hl.add (t := 0) (hl.add (t := 1) (hl.add (t := 4) (hl.add (t := 5) (hl.add (t := 6) (hl.add (t := 7) (hl.add (t := 8) (hl.add (t := 10) (hl.add (t := 12) (hl.add (t := 13) (hl.add (t := 22) (hl.add (t := 23) (hl.add (t := 24) (hl.nil) rfl) rfl) rfl) rfl) rfl) rfl) rfl) rfl) rfl) rfl) rfl) rfl) rfl; clear hl; have hl := hl2; clear hl2
            refine then_normal ?_
            refine c_seq ?_
            refine c_region ?_
            refine wl (wl_val hl rfl trivial (r_move hl rfl) ?_)
            clear hl a; intro a hl
            refine wl (wl_val hl rfl trivial (r_leq hl rfl rfl) ?_)
            clear hl a; intro a hl
            refine w_nil ?_
            have hl2 := hl.add (t := 0) (hl.add (t := 1) (hl.add (t := 4) (hl.add (t := 5) (hl.add (t := 6) (hl.add (t := 7) (hl.add (t := 8) (hl.add (t := 12) (hl.add (t := 13) (hl.add (t := 22) (hl.add (t := 23) (hl.add (t := 24) (hl.add (t := 57) (hl.nil) rfl) rfl) rfl) rfl) rfl) rfl) rfl) rfl) rfl) rfl) rfl) rfl) rfl; clear hl; have hl := hl2; clear hl2
            refine then_normal ?_
            refine c_cond hl rfl ?_ ?_
            · intro hc5
              try simp only [decide_eq_true_eq, decide_eq_false_iff_not, Bool.not_eq_true', Bool.not_eq_false', Bool.not_eq_true, Bool.not_eq_false, Bool.and_eq_true, Bool.or_eq_true, Bool.and_eq_false_iff, Bool.or_eq_false_iff, Bool.not_not, ne_eq, Int.not_lt, Int.not_le, Decidable.not_not, beq_iff_eq, bne_iff_ne] at hc5
              refine c_region ?_
              refine wl (wl_val hl rfl trivial (r_move hl rfl) ?_)
              clear hl a; intro a hl
              refine wl (wl_val hl rfl trivial (r_move hl rfl) ?_)
              clear hl a; intro a hl
              refine wl (wl_val hl rfl trivial (r_move hl rfl) ?_)
              clear hl a; intro a hl
              refine wl (wl_val hl rfl trivial (r_build hl rfl zero61 bld61 (by simp only [fillL, setL, List.getElem?_cons_zero, List.getElem?_cons_succ, Value.cells, List.take_zero, List.take_succ_cons, List.take_nil, List.drop_zero, List.drop_succ_cons, List.drop_nil, List.length_cons, List.length_nil, List.cons_append, List.nil_append, List.append_nil, Nat.zero_add, Nat.add_zero, Nat.reduceAdd, Nat.reduceBEq, Nat.reduceEqDiff, Nat.ble, BEq.rfl, Bool.and_true, Bool.and_self, cond_true, beq_self_eq_true]; rfl)) ?_)
              clear hl a; intro a hl
              refine wl (w_buildSlice hl hh rfl trivial app51 zero61 rfl rfl rfl rfl rfl (by simp only [fillL, arrPl, List.range_succ, List.range_zero, List.map_cons, List.map_nil, List.map_append, List.nil_append, List.replicate_succ, List.replicate_zero, List.flatten_cons, List.flatten_nil, Nat.zero_mul, Nat.mul_one, Nat.one_mul, Nat.reduceMul, setL, List.getElem?_cons_zero, List.getElem?_cons_succ, Value.cells, List.take_zero, List.take_succ_cons, List.take_nil, List.drop_zero, List.drop_succ_cons, List.drop_nil, List.length_cons, List.length_nil, List.cons_append, List.nil_append, List.append_nil, Nat.zero_add, Nat.add_zero, Nat.reduceAdd, Nat.reduceBEq, Nat.reduceEqDiff, Nat.ble, BEq.rfl, Bool.and_true, Bool.and_self, cond_true, beq_self_eq_true]; rfl) ?_)
              clear hl hh a w; intro k62 a w hl hh
              refine wl (w_append (news := [.int .i64 (i : Int), .int .i64 (l : Int)]) hl hh rfl trivial app51 rfl rfl rfl hrowN (by repeat (first | exact keeps_left | apply keeps_mv)) (hh.mem _ _ (Find.mem (by repeat (first | exact find_head | apply find_tail)))) rfl rfl rfl (by omega) (by omega) (by omega) (by decide) ?_)
              clear hl hh a w; intro rv2 E2 a w hR2 hl hh
              have hh3 := hh.comm; clear hh; have hh := hh3; clear hh3
              simp only [List.cons_append, List.nil_append] at hh
              refine wl (wl_val hl rfl trivial (r_assign hl rfl) ?_)
              clear hl a; intro a hl
              refine w_nil ?_
              have hl2 := hl.add (t := 0) (hl.add (t := 1) (hl.add (t := 4) (hl.add (t := 5) (hl.add (t := 6) (hl.add (t := 7) (hl.add (t := 12) (hl.add (t := 13) (hl.add (t := 22) (hl.add (t := 23) (hl.add (t := 24) (hl.nil) rfl) rfl) rfl) rfl) rfl) rfl) rfl) rfl) rfl) rfl) rfl; clear hl; have hl := hl2; clear hl2
              refine blk_normal ?_
              refine then_normal ?_
              refine c_region ?_
              first | refine wl (wl_val hl rfl trivial (r_add hl rfl rfl (by simp only [Fits]; omega)) ?_) | refine wl (wl_val hl rfl trivial (r_addW hl rfl rfl) ?_)
              clear hl a; intro a hl
              refine wl (wl_val hl rfl trivial (r_move hl rfl) ?_)
              clear hl a; intro a hl
              refine w_nil ?_
              have hl2 := hl.add (t := 0) (hl.add (t := 1) (hl.add (t := 4) (hl.add (t := 5) (hl.add (t := 6) (hl.add (t := 7) (hl.add (t := 12) (hl.add (t := 13) (hl.add (t := 22) (hl.add (t := 23) (hl.add (t := 24) (hl.nil) rfl) rfl) rfl) rfl) rfl) rfl) rfl) rfl) rfl) rfl) rfl; clear hl; have hl := hl2; clear hl2
              refine then_normal ?_
              skip
              first | refine ⟨⟨l + 1, ([xa, xb], [(i, l)]), rv2, E2, es, .slice (some ⟨rb, 0, none⟩) 2 rc, E ++ Fo⟩, (by simp only; omega), ⟨by show (l + 1 ≤ X.n); omega, (by rw [innerP_succ _ _ _ _ _ hp, ← hac]; first | (rw [ls_first hpl2 he0, hrd2]) | (rw [ls_lt hpl2 hne0 (by rw [hcp]; omega), hrd2])), (by have := hR2; simpa [fl, pkc] using this), rfl, (by show 1 ≤ i * X.n + (l + 1); omega), fun _ => ⟨rfl, rb, rc, rj, xa, xb, rfl, rfl, List.mem_append_right _ (by rw [hFo]; simp)⟩⟩, hl.addE (t := 24) (hl.addE (t := 5) (hl.addE (t := 0) (hl.addE (t := 1) (hl.addE (t := 4) (hl.addE (t := 6) (hl.addE (t := 7) (hl.addE (t := 12) (hl.addE (t := 13) (hl.addE (t := 22) (hl.addE (t := 23) (hl.nil) rfl (by first | rfl | rfl)) rfl (by first | rfl | rfl)) rfl (by first | rfl | rfl)) rfl (by first | rfl | rfl)) rfl (by first | rfl | rfl)) rfl (by first | rfl | rfl)) rfl (by first | rfl | rfl)) rfl (by first | rfl | rfl)) rfl (by first | rfl | rfl)) rfl (by first | rfl | rfl)) rfl (by first | rfl | rfl), hh.keep (by repeat (first | exact keeps_nil | apply keeps_cons (by repeat (first | exact find_head | apply find_tail)) (by first  | rfl) | exact keeps_self | exact keeps_left | exact keeps_right | exact keeps_swap | apply keeps_mv))⟩ | refine ⟨⟨l + 1, (ac.1, ac.2 ++ [(i, l)]), rv2, E2, es, .slice (some ⟨lb, 0, none⟩) 2 lcp, E ++ Fo⟩, (by simp only; omega), ⟨by show (l + 1 ≤ X.n); omega, (by rw [innerP_succ _ _ _ _ _ hp, ← hac, ls_eq hpl2 hne0 (by rw [hcp]; omega)]), (by have := hR2; show Row rv2 (ac.2 ++ [(i, l)]).length (fl pkc (ac.2 ++ [(i, l)])) 2 61 E2; rw [List.length_append, fl_append]; simpa [fl, pkc] using this), hone1, (by show (ac.2 ++ [(i, l)]).length ≤ i * X.n + (l + 1); rw [List.length_append]; simp only [List.length_singleton]; omega), fun _ => ⟨rfl, lb, lcp, jl, lx, ly, rfl, hax, List.mem_append_left _ hlm⟩⟩, hl.addE (t := 24) (hl.addE (t := 5) (hl.addE (t := 0) (hl.addE (t := 1) (hl.addE (t := 4) (hl.addE (t := 6) (hl.addE (t := 7) (hl.addE (t := 12) (hl.addE (t := 13) (hl.addE (t := 22) (hl.addE (t := 23) (hl.nil) rfl (by first | rfl | rfl)) rfl (by first | rfl | rfl)) rfl (by first | rfl | rfl)) rfl (by first | rfl | rfl)) rfl (by first | rfl | rfl)) rfl (by first | rfl | rfl)) rfl (by first | rfl | rfl)) rfl (by first | rfl | rfl)) rfl (by first | rfl | rfl)) rfl (by first | rfl | rfl)) rfl (by first | rfl | rfl), hh.keep (by repeat (first | exact keeps_nil | apply keeps_cons (by repeat (first | exact find_head | apply find_tail)) (by first  | rfl) | exact keeps_self | exact keeps_left | exact keeps_right | exact keeps_swap | apply keeps_mv))⟩ | refine ⟨⟨l + 1, ac, .slice pp ac.2.length pc, Ep, es, .slice (some ⟨lb, 0, none⟩) 2 lcp, E ++ Fo⟩, (by simp only; omega), ⟨by show (l + 1 ≤ X.n); omega, (by rw [innerP_succ _ _ _ _ _ hp, ← hac, ls_gt hpl2 hne0 (by rw [hcp]; omega)]), hrow, hone1, (by show ac.2.length ≤ i * X.n + (l + 1); omega), fun _ => ⟨rfl, lb, lcp, jl, lx, ly, rfl, hax, List.mem_append_left _ hlm⟩⟩, hl.addE (t := 24) (hl.addE (t := 5) (hl.addE (t := 0) (hl.addE (t := 1) (hl.addE (t := 4) (hl.addE (t := 6) (hl.addE (t := 7) (hl.addE (t := 12) (hl.addE (t := 13) (hl.addE (t := 22) (hl.addE (t := 23) (hl.nil) rfl (by first | rfl | rfl)) rfl (by first | rfl | rfl)) rfl (by first | rfl | rfl)) rfl (by first | rfl | rfl)) rfl (by first | rfl | rfl)) rfl (by first | rfl | rfl)) rfl (by first | rfl | rfl)) rfl (by first | rfl | rfl)) rfl (by first | rfl | rfl)) rfl (by first | rfl | rfl)) rfl (by first | rfl | rfl), hh.keep (by repeat (first | exact keeps_nil | apply keeps_cons (by repeat (first | exact find_head | apply find_tail)) (by first  | rfl) | exact keeps_self | exact keeps_left | exact keeps_right | exact keeps_swap | apply keeps_mv))⟩ | refine ⟨⟨l + 1, ac, .slice pp ac.2.length pc, Ep, ks, kl, E⟩, (by simp only; omega), ⟨by show (l + 1 ≤ X.n); omega, (by rw [innerP_succ _ _ _ _ _ hp, ← hac, ls_placed hpl2]), hrow, hone1, (by show ac.2.length ≤ i * X.n + (l + 1); omega), hll⟩, hl.addE (t := 24) (hl.addE (t := 5) (hl.addE (t := 0) (hl.addE (t := 1) (hl.addE (t := 4) (hl.addE (t := 6) (hl.addE (t := 7) (hl.addE (t := 12) (hl.addE (t := 13) (hl.addE (t := 22) (hl.addE (t := 23) (hl.nil) rfl (by first | rfl | rfl)) rfl (by first | rfl | rfl)) rfl (by first | rfl | rfl)) rfl (by first | rfl | rfl)) rfl (by first | rfl | rfl)) rfl (by first | rfl | rfl)) rfl (by first | rfl | rfl)) rfl (by first | rfl | rfl)) rfl (by first | rfl | rfl)) rfl (by first | rfl | rfl)) rfl (by first | rfl | rfl), hh.keep (by repeat (first | exact keeps_nil | apply keeps_cons (by repeat (first | exact find_head | apply find_tail)) (by first  | rfl) | exact keeps_self | exact keeps_left | exact keeps_right | exact keeps_swap | apply keeps_mv))⟩ | (exfalso; omega)
            · intro hc5
              try simp only [decide_eq_true_eq, decide_eq_false_iff_not, Bool.not_eq_true', Bool.not_eq_false', Bool.not_eq_true, Bool.not_eq_false, Bool.and_eq_true, Bool.or_eq_true, Bool.and_eq_false_iff, Bool.or_eq_false_iff, Bool.not_not, ne_eq, Int.not_lt, Int.not_le, Decidable.not_not, beq_iff_eq, bne_iff_ne] at hc5
              refine wp_skip ?_
              refine blk_normal ?_
              refine then_normal ?_
              refine c_region ?_
              first | refine wl (wl_val hl rfl trivial (r_add hl rfl rfl (by simp only [Fits]; omega)) ?_) | refine wl (wl_val hl rfl trivial (r_addW hl rfl rfl) ?_)
              clear hl a; intro a hl
              refine wl (wl_val hl rfl trivial (r_move hl rfl) ?_)
              clear hl a; intro a hl
              refine w_nil ?_
              have hl2 := hl.add (t := 0) (hl.add (t := 1) (hl.add (t := 4) (hl.add (t := 5) (hl.add (t := 6) (hl.add (t := 7) (hl.add (t := 12) (hl.add (t := 13) (hl.add (t := 22) (hl.add (t := 23) (hl.add (t := 24) (hl.nil) rfl) rfl) rfl) rfl) rfl) rfl) rfl) rfl) rfl) rfl) rfl; clear hl; have hl := hl2; clear hl2
              refine then_normal ?_
              skip
              first | refine ⟨⟨l + 1, ([xa, xb], [(i, l)]), rv2, E2, es, .slice (some ⟨rb, 0, none⟩) 2 rc, E ++ Fo⟩, (by simp only; omega), ⟨by show (l + 1 ≤ X.n); omega, (by rw [innerP_succ _ _ _ _ _ hp, ← hac]; first | (rw [ls_first hpl2 he0, hrd2]) | (rw [ls_lt hpl2 hne0 (by rw [hcp]; omega), hrd2])), (by have := hR2; simpa [fl, pkc] using this), rfl, (by show 1 ≤ i * X.n + (l + 1); omega), fun _ => ⟨rfl, rb, rc, rj, xa, xb, rfl, rfl, List.mem_append_right _ (by rw [hFo]; simp)⟩⟩, hl.addE (t := 24) (hl.addE (t := 5) (hl.addE (t := 0) (hl.addE (t := 1) (hl.addE (t := 4) (hl.addE (t := 6) (hl.addE (t := 7) (hl.addE (t := 12) (hl.addE (t := 13) (hl.addE (t := 22) (hl.addE (t := 23) (hl.nil) rfl (by first | rfl | rfl)) rfl (by first | rfl | rfl)) rfl (by first | rfl | rfl)) rfl (by first | rfl | rfl)) rfl (by first | rfl | rfl)) rfl (by first | rfl | rfl)) rfl (by first | rfl | rfl)) rfl (by first | rfl | rfl)) rfl (by first | rfl | rfl)) rfl (by first | rfl | rfl)) rfl (by first | rfl | rfl), hh.keep (by repeat (first | exact keeps_nil | apply keeps_cons (by repeat (first | exact find_head | apply find_tail)) (by first  | rfl) | exact keeps_self | exact keeps_left | exact keeps_right | exact keeps_swap | apply keeps_mv))⟩ | refine ⟨⟨l + 1, (ac.1, ac.2 ++ [(i, l)]), rv2, E2, es, .slice (some ⟨lb, 0, none⟩) 2 lcp, E ++ Fo⟩, (by simp only; omega), ⟨by show (l + 1 ≤ X.n); omega, (by rw [innerP_succ _ _ _ _ _ hp, ← hac, ls_eq hpl2 hne0 (by rw [hcp]; omega)]), (by have := hR2; show Row rv2 (ac.2 ++ [(i, l)]).length (fl pkc (ac.2 ++ [(i, l)])) 2 61 E2; rw [List.length_append, fl_append]; simpa [fl, pkc] using this), hone1, (by show (ac.2 ++ [(i, l)]).length ≤ i * X.n + (l + 1); rw [List.length_append]; simp only [List.length_singleton]; omega), fun _ => ⟨rfl, lb, lcp, jl, lx, ly, rfl, hax, List.mem_append_left _ hlm⟩⟩, hl.addE (t := 24) (hl.addE (t := 5) (hl.addE (t := 0) (hl.addE (t := 1) (hl.addE (t := 4) (hl.addE (t := 6) (hl.addE (t := 7) (hl.addE (t := 12) (hl.addE (t := 13) (hl.addE (t := 22) (hl.addE (t := 23) (hl.nil) rfl (by first | rfl | rfl)) rfl (by first | rfl | rfl)) rfl (by first | rfl | rfl)) rfl (by first | rfl | rfl)) rfl (by first | rfl | rfl)) rfl (by first | rfl | rfl)) rfl (by first | rfl | rfl)) rfl (by first | rfl | rfl)) rfl (by first | rfl | rfl)) rfl (by first | rfl | rfl)) rfl (by first | rfl | rfl), hh.keep (by repeat (first | exact keeps_nil | apply keeps_cons (by repeat (first | exact find_head | apply find_tail)) (by first  | rfl) | exact keeps_self | exact keeps_left | exact keeps_right | exact keeps_swap | apply keeps_mv))⟩ | refine ⟨⟨l + 1, ac, .slice pp ac.2.length pc, Ep, es, .slice (some ⟨lb, 0, none⟩) 2 lcp, E ++ Fo⟩, (by simp only; omega), ⟨by show (l + 1 ≤ X.n); omega, (by rw [innerP_succ _ _ _ _ _ hp, ← hac, ls_gt hpl2 hne0 (by rw [hcp]; omega)]), hrow, hone1, (by show ac.2.length ≤ i * X.n + (l + 1); omega), fun _ => ⟨rfl, lb, lcp, jl, lx, ly, rfl, hax, List.mem_append_left _ hlm⟩⟩, hl.addE (t := 24) (hl.addE (t := 5) (hl.addE (t := 0) (hl.addE (t := 1) (hl.addE (t := 4) (hl.addE (t := 6) (hl.addE (t := 7) (hl.addE (t := 12) (hl.addE (t := 13) (hl.addE (t := 22) (hl.addE (t := 23) (hl.nil) rfl (by first | rfl | rfl)) rfl (by first | rfl | rfl)) rfl (by first | rfl | rfl)) rfl (by first | rfl | rfl)) rfl (by first | rfl | rfl)) rfl (by first | rfl | rfl)) rfl (by first | rfl | rfl)) rfl (by first | rfl | rfl)) rfl (by first | rfl | rfl)) rfl (by first | rfl | rfl)) rfl (by first | rfl | rfl), hh.keep (by repeat (first | exact keeps_nil | apply keeps_cons (by repeat (first | exact find_head | apply find_tail)) (by first  | rfl) | exact keeps_self | exact keeps_left | exact keeps_right | exact keeps_swap | apply keeps_mv))⟩ | refine ⟨⟨l + 1, ac, .slice pp ac.2.length pc, Ep, ks, kl, E⟩, (by simp only; omega), ⟨by show (l + 1 ≤ X.n); omega, (by rw [innerP_succ _ _ _ _ _ hp, ← hac, ls_placed hpl2]), hrow, hone1, (by show ac.2.length ≤ i * X.n + (l + 1); omega), hll⟩, hl.addE (t := 24) (hl.addE (t := 5) (hl.addE (t := 0) (hl.addE (t := 1) (hl.addE (t := 4) (hl.addE (t := 6) (hl.addE (t := 7) (hl.addE (t := 12) (hl.addE (t := 13) (hl.addE (t := 22) (hl.addE (t := 23) (hl.nil) rfl (by first | rfl | rfl)) rfl (by first | rfl | rfl)) rfl (by first | rfl | rfl)) rfl (by first | rfl | rfl)) rfl (by first | rfl | rfl)) rfl (by first | rfl | rfl)) rfl (by first | rfl | rfl)) rfl (by first | rfl | rfl)) rfl (by first | rfl | rfl)) rfl (by first | rfl | rfl)) rfl (by first | rfl | rfl), hh.keep (by repeat (first | exact keeps_nil | apply keeps_cons (by repeat (first | exact find_head | apply find_tail)) (by first  | rfl) | exact keeps_self | exact keeps_left | exact keeps_right | exact keeps_swap | apply keeps_mv))⟩ | (exfalso; omega)
          · intro hc4
            try simp only [decide_eq_true_eq, decide_eq_false_iff_not, Bool.not_eq_true', Bool.not_eq_false', Bool.not_eq_true, Bool.not_eq_false, Bool.and_eq_true, Bool.or_eq_true, Bool.and_eq_false_iff, Bool.or_eq_false_iff, Bool.not_not, ne_eq, Int.not_lt, Int.not_le, Decidable.not_not, beq_iff_eq, bne_iff_ne] at hc4
            have hrowN := hrow
            refine wp_skip ?_
            refine then_normal ?_
            refine c_seq ?_
            refine c_region ?_
            refine wl (wl_val hl rfl trivial (r_move hl rfl) ?_)
            clear hl a; intro a hl
            refine wl (wl_val hl rfl trivial (r_leq hl rfl rfl) ?_)
            clear hl a; intro a hl
            refine w_nil ?_
            have hl2 := hl.add (t := 0) (hl.add (t := 1) (hl.add (t := 4) (hl.add (t := 5) (hl.add (t := 6) (hl.add (t := 7) (hl.add (t := 8) (hl.add (t := 12) (hl.add (t := 13) (hl.add (t := 22) (hl.add (t := 23) (hl.add (t := 24) (hl.add (t := 57) (hl.nil) rfl) rfl) rfl) rfl) rfl) rfl) rfl) rfl) rfl) rfl) rfl) rfl) rfl; clear hl; have hl := hl2; clear hl2
            refine then_normal ?_
            refine c_cond hl rfl ?_ ?_
            · intro hc5
              try simp only [decide_eq_true_eq, decide_eq_false_iff_not, Bool.not_eq_true', Bool.not_eq_false', Bool.not_eq_true, Bool.not_eq_false, Bool.and_eq_true, Bool.or_eq_true, Bool.and_eq_false_iff, Bool.or_eq_false_iff, Bool.not_not, ne_eq, Int.not_lt, Int.not_le, Decidable.not_not, beq_iff_eq, bne_iff_ne] at hc5
              refine c_region ?_
              refine wl (wl_val hl rfl trivial (r_move hl rfl) ?_)
              clear hl a; intro a hl
              refine wl (wl_val hl rfl trivial (r_move hl rfl) ?_)
              clear hl a; intro a hl
              refine wl (wl_val hl rfl trivial (r_move hl rfl) ?_)
              clear hl a; intro a hl
              refine wl (wl_val hl rfl trivial (r_build hl rfl zero61 bld61 (by simp only [fillL, setL, List.getElem?_cons_zero, List.getElem?_cons_succ, Value.cells, List.take_zero, List.take_succ_cons, List.take_nil, List.drop_zero, List.drop_succ_cons, List.drop_nil, List.length_cons, List.length_nil, List.cons_append, List.nil_append, List.append_nil, Nat.zero_add, Nat.add_zero, Nat.reduceAdd, Nat.reduceBEq, Nat.reduceEqDiff, Nat.ble, BEq.rfl, Bool.and_true, Bool.and_self, cond_true, beq_self_eq_true]; rfl)) ?_)
              clear hl a; intro a hl
              refine wl (w_buildSlice hl hh rfl trivial app51 zero61 rfl rfl rfl rfl rfl (by simp only [fillL, arrPl, List.range_succ, List.range_zero, List.map_cons, List.map_nil, List.map_append, List.nil_append, List.replicate_succ, List.replicate_zero, List.flatten_cons, List.flatten_nil, Nat.zero_mul, Nat.mul_one, Nat.one_mul, Nat.reduceMul, setL, List.getElem?_cons_zero, List.getElem?_cons_succ, Value.cells, List.take_zero, List.take_succ_cons, List.take_nil, List.drop_zero, List.drop_succ_cons, List.drop_nil, List.length_cons, List.length_nil, List.cons_append, List.nil_append, List.append_nil, Nat.zero_add, Nat.add_zero, Nat.reduceAdd, Nat.reduceBEq, Nat.reduceEqDiff, Nat.ble, BEq.rfl, Bool.and_true, Bool.and_self, cond_true, beq_self_eq_true]; rfl) ?_)
              clear hl hh a w; intro k62 a w hl hh
              refine wl (w_append (news := [.int .i64 (i : Int), .int .i64 (l : Int)]) hl hh rfl trivial app51 rfl rfl rfl hrowN (by repeat (first | exact keeps_left | apply keeps_mv)) (hh.mem _ _ (Find.mem (by repeat (first | exact find_head | apply find_tail)))) rfl rfl rfl (by omega) (by omega) (by omega) (by decide) ?_)
              clear hl hh a w; intro rv2 E2 a w hR2 hl hh
              have hh3 := hh.comm; clear hh; have hh := hh3; clear hh3
              simp only [List.cons_append, List.nil_append] at hh
              refine wl (wl_val hl rfl trivial (r_assign hl rfl) ?_)
              clear hl a; intro a hl
              refine w_nil ?_
              have hl2 := hl.add (t := 0) (hl.add (t := 1) (hl.add (t := 4) (hl.add (t := 5) (hl.add (t := 6) (hl.add (t := 7) (hl.add (t := 12) (hl.add (t := 13) (hl.add (t := 22) (hl.add (t := 23) (hl.add (t := 24) (hl.nil) rfl) rfl) rfl) rfl) rfl) rfl) rfl) rfl) rfl) rfl) rfl; clear hl; have hl := hl2; clear hl2
              refine blk_normal ?_
              refine then_normal ?_
              refine c_region ?_
              first | refine wl (wl_val hl rfl trivial (r_add hl rfl rfl (by simp only [Fits]; omega)) ?_) | refine wl (wl_val hl rfl trivial (r_addW hl rfl rfl) ?_)
              clear hl a; intro a hl
              refine wl (wl_val hl rfl trivial (r_move hl rfl) ?_)
              clear hl a; intro a hl
              refine w_nil ?_
              have hl2 := hl.add (t := 0) (hl.add (t := 1) (hl.add (t := 4) (hl.add (t := 5) (hl.add (t := 6) (hl.add (t := 7) (hl.add (t := 12) (hl.add (t := 13) (hl.add (t := 22) (hl.add (t := 23) (hl.add (t := 24) (hl.nil) rfl) rfl) rfl) rfl) rfl) rfl) rfl) rfl) rfl) rfl) rfl; clear hl; have hl := hl2; clear hl2
              refine then_normal ?_
              skip
              first | refine ⟨⟨l + 1, ([xa, xb], [(i, l)]), rv2, E2, es, .slice (some ⟨rb, 0, none⟩) 2 rc, E ++ Fo⟩, (by simp only; omega), ⟨by show (l + 1 ≤ X.n); omega, (by rw [innerP_succ _ _ _ _ _ hp, ← hac]; first | (rw [ls_first hpl2 he0, hrd2]) | (rw [ls_lt hpl2 hne0 (by rw [hcp]; omega), hrd2])), (by have := hR2; simpa [fl, pkc] using this), rfl, (by show 1 ≤ i * X.n + (l + 1); omega), fun _ => ⟨rfl, rb, rc, rj, xa, xb, rfl, rfl, List.mem_append_right _ (by rw [hFo]; simp)⟩⟩, hl.addE (t := 24) (hl.addE (t := 5) (hl.addE (t := 0) (hl.addE (t := 1) (hl.addE (t := 4) (hl.addE (t := 6) (hl.addE (t := 7) (hl.addE (t := 12) (hl.addE (t := 13) (hl.addE (t := 22) (hl.addE (t := 23) (hl.nil) rfl (by first | rfl | rfl)) rfl (by first | rfl | rfl)) rfl (by first | rfl | rfl)) rfl (by first | rfl | rfl)) rfl (by first | rfl | rfl)) rfl (by first | rfl | rfl)) rfl (by first | rfl | rfl)) rfl (by first | rfl | rfl)) rfl (by first | rfl | rfl)) rfl (by first | rfl | rfl)) rfl (by first | rfl | rfl), hh.keep (by repeat (first | exact keeps_nil | apply keeps_cons (by repeat (first | exact find_head | apply find_tail)) (by first  | rfl) | exact keeps_self | exact keeps_left | exact keeps_right | exact keeps_swap | apply keeps_mv))⟩ | refine ⟨⟨l + 1, (ac.1, ac.2 ++ [(i, l)]), rv2, E2, es, .slice (some ⟨lb, 0, none⟩) 2 lcp, E ++ Fo⟩, (by simp only; omega), ⟨by show (l + 1 ≤ X.n); omega, (by rw [innerP_succ _ _ _ _ _ hp, ← hac, ls_eq hpl2 hne0 (by rw [hcp]; omega)]), (by have := hR2; show Row rv2 (ac.2 ++ [(i, l)]).length (fl pkc (ac.2 ++ [(i, l)])) 2 61 E2; rw [List.length_append, fl_append]; simpa [fl, pkc] using this), hone1, (by show (ac.2 ++ [(i, l)]).length ≤ i * X.n + (l + 1); rw [List.length_append]; simp only [List.length_singleton]; omega), fun _ => ⟨rfl, lb, lcp, jl, lx, ly, rfl, hax, List.mem_append_left _ hlm⟩⟩, hl.addE (t := 24) (hl.addE (t := 5) (hl.addE (t := 0) (hl.addE (t := 1) (hl.addE (t := 4) (hl.addE (t := 6) (hl.addE (t := 7) (hl.addE (t := 12) (hl.addE (t := 13) (hl.addE (t := 22) (hl.addE (t := 23) (hl.nil) rfl (by first | rfl | rfl)) rfl (by first | rfl | rfl)) rfl (by first | rfl | rfl)) rfl (by first | rfl | rfl)) rfl (by first | rfl | rfl)) rfl (by first | rfl | rfl)) rfl (by first | rfl | rfl)) rfl (by first | rfl | rfl)) rfl (by first | rfl | rfl)) rfl (by first | rfl | rfl)) rfl (by first | rfl | rfl), hh.keep (by repeat (first | exact keeps_nil | apply keeps_cons (by repeat (first | exact find_head | apply find_tail)) (by first  | rfl) | exact keeps_self | exact keeps_left | exact keeps_right | exact keeps_swap | apply keeps_mv))⟩ | refine ⟨⟨l + 1, ac, .slice pp ac.2.length pc, Ep, es, .slice (some ⟨lb, 0, none⟩) 2 lcp, E ++ Fo⟩, (by simp only; omega), ⟨by show (l + 1 ≤ X.n); omega, (by rw [innerP_succ _ _ _ _ _ hp, ← hac, ls_gt hpl2 hne0 (by rw [hcp]; omega)]), hrow, hone1, (by show ac.2.length ≤ i * X.n + (l + 1); omega), fun _ => ⟨rfl, lb, lcp, jl, lx, ly, rfl, hax, List.mem_append_left _ hlm⟩⟩, hl.addE (t := 24) (hl.addE (t := 5) (hl.addE (t := 0) (hl.addE (t := 1) (hl.addE (t := 4) (hl.addE (t := 6) (hl.addE (t := 7) (hl.addE (t := 12) (hl.addE (t := 13) (hl.addE (t := 22) (hl.addE (t := 23) (hl.nil) rfl (by first | rfl | rfl)) rfl (by first | rfl | rfl)) rfl (by first | rfl | rfl)) rfl (by first | rfl | rfl)) rfl (by first | rfl | rfl)) rfl (by first | rfl | rfl)) rfl (by first | rfl | rfl)) rfl (by first | rfl | rfl)) rfl (by first | rfl | rfl)) rfl (by first | rfl | rfl)) rfl (by first | rfl | rfl), hh.keep (by repeat (first | exact keeps_nil | apply keeps_cons (by repeat (first | exact find_head | apply find_tail)) (by first  | rfl) | exact keeps_self | exact keeps_left | exact keeps_right | exact keeps_swap | apply keeps_mv))⟩ | refine ⟨⟨l + 1, ac, .slice pp ac.2.length pc, Ep, ks, kl, E⟩, (by simp only; omega), ⟨by show (l + 1 ≤ X.n); omega, (by rw [innerP_succ _ _ _ _ _ hp, ← hac, ls_placed hpl2]), hrow, hone1, (by show ac.2.length ≤ i * X.n + (l + 1); omega), hll⟩, hl.addE (t := 24) (hl.addE (t := 5) (hl.addE (t := 0) (hl.addE (t := 1) (hl.addE (t := 4) (hl.addE (t := 6) (hl.addE (t := 7) (hl.addE (t := 12) (hl.addE (t := 13) (hl.addE (t := 22) (hl.addE (t := 23) (hl.nil) rfl (by first | rfl | rfl)) rfl (by first | rfl | rfl)) rfl (by first | rfl | rfl)) rfl (by first | rfl | rfl)) rfl (by first | rfl | rfl)) rfl (by first | rfl | rfl)) rfl (by first | rfl | rfl)) rfl (by first | rfl | rfl)) rfl (by first | rfl | rfl)) rfl (by first | rfl | rfl)) rfl (by first | rfl | rfl), hh.keep (by repeat (first | exact keeps_nil | apply keeps_cons (by repeat (first | exact find_head | apply find_tail)) (by first  | rfl) | exact keeps_self | exact keeps_left | exact keeps_right | exact keeps_swap | apply keeps_mv))⟩ | (exfalso; omega)
            · intro hc5
              try simp only [decide_eq_true_eq, decide_eq_false_iff_not, Bool.not_eq_true', Bool.not_eq_false', Bool.not_eq_true, Bool.not_eq_false, Bool.and_eq_true, Bool.or_eq_true, Bool.and_eq_false_iff, Bool.or_eq_false_iff, Bool.not_not, ne_eq, Int.not_lt, Int.not_le, Decidable.not_not, beq_iff_eq, bne_iff_ne] at hc5
              refine wp_skip ?_
              refine blk_normal ?_
              refine then_normal ?_
              refine c_region ?_
              first | refine wl (wl_val hl rfl trivial (r_add hl rfl rfl (by simp only [Fits]; omega)) ?_) | refine wl (wl_val hl rfl trivial (r_addW hl rfl rfl) ?_)
              clear hl a; intro a hl
              refine wl (wl_val hl rfl trivial (r_move hl rfl) ?_)
              clear hl a; intro a hl
              refine w_nil ?_
              have hl2 := hl.add (t := 0) (hl.add (t := 1) (hl.add (t := 4) (hl.add (t := 5) (hl.add (t := 6) (hl.add (t := 7) (hl.add (t := 12) (hl.add (t := 13) (hl.add (t := 22) (hl.add (t := 23) (hl.add (t := 24) (hl.nil) rfl) rfl) rfl) rfl) rfl) rfl) rfl) rfl) rfl) rfl) rfl; clear hl; have hl := hl2; clear hl2
              refine then_normal ?_
              skip
              first | refine ⟨⟨l + 1, ([xa, xb], [(i, l)]), rv2, E2, es, .slice (some ⟨rb, 0, none⟩) 2 rc, E ++ Fo⟩, (by simp only; omega), ⟨by show (l + 1 ≤ X.n); omega, (by rw [innerP_succ _ _ _ _ _ hp, ← hac]; first | (rw [ls_first hpl2 he0, hrd2]) | (rw [ls_lt hpl2 hne0 (by rw [hcp]; omega), hrd2])), (by have := hR2; simpa [fl, pkc] using this), rfl, (by show 1 ≤ i * X.n + (l + 1); omega), fun _ => ⟨rfl, rb, rc, rj, xa, xb, rfl, rfl, List.mem_append_right _ (by rw [hFo]; simp)⟩⟩, hl.addE (t := 24) (hl.addE (t := 5) (hl.addE (t := 0) (hl.addE (t := 1) (hl.addE (t := 4) (hl.addE (t := 6) (hl.addE (t := 7) (hl.addE (t := 12) (hl.addE (t := 13) (hl.addE (t := 22) (hl.addE (t := 23) (hl.nil) rfl (by first | rfl | rfl)) rfl (by first | rfl | rfl)) rfl (by first | rfl | rfl)) rfl (by first | rfl | rfl)) rfl (by first | rfl | rfl)) rfl (by first | rfl | rfl)) rfl (by first | rfl | rfl)) rfl (by first | rfl | rfl)) rfl (by first | rfl | rfl)) rfl (by first | rfl | rfl)) rfl (by first | rfl | rfl), hh.keep (by repeat (first | exact keeps_nil | apply keeps_cons (by repeat (first | exact find_head | apply find_tail)) (by first  | rfl) | exact keeps_self | exact keeps_left | exact keeps_right | exact keeps_swap | apply keeps_mv))⟩ | refine ⟨⟨l + 1, (ac.1, ac.2 ++ [(i, l)]), rv2, E2, es, .slice (some ⟨lb, 0, none⟩) 2 lcp, E ++ Fo⟩, (by simp only; omega), ⟨by show (l + 1 ≤ X.n); omega, (by rw [innerP_succ _ _ _ _ _ hp, ← hac, ls_eq hpl2 hne0 (by rw [hcp]; omega)]), (by have := hR2; show Row rv2 (ac.2 ++ [(i, l)]).length (fl pkc (ac.2 ++ [(i, l)])) 2 61 E2; rw [List.length_append, fl_append]; simpa [fl, pkc] using this), hone1, (by show (ac.2 ++ [(i, l)]).length ≤ i * X.n + (l + 1); rw [List.length_append]; simp only [List.length_singleton]; omega), fun _ => ⟨rfl, lb, lcp, jl, lx, ly, rfl, hax, List.mem_append_left _ hlm⟩⟩, hl.addE (t := 24) (hl.addE (t := 5) (hl.addE (t := 0) (hl.addE (t := 1) (hl.addE (t := 4) (hl.addE (t := 6) (hl.addE (t := 7) (hl.addE (t := 12) (hl.addE (t := 13) (hl.addE (t := 22) (hl.addE (t := 23) (hl.nil) rfl (by first | rfl | rfl)) rfl (by first | rfl | rfl)) rfl (by first | rfl | rfl)) rfl (by first | rfl | rfl)) rfl (by first | rfl | rfl)) rfl (by first | rfl | rfl)) rfl (by first | rfl | rfl)) rfl (by first | rfl | rfl)) rfl (by first | rfl | rfl)) rfl (by first | rfl | rfl)) rfl (by first | rfl | rfl), hh.keep (by repeat (first | exact keeps_nil | apply keeps_cons (by repeat (first | exact find_head | apply find_tail)) (by first  | rfl) | exact keeps_self | exact keeps_left | exact keeps_right | exact keeps_swap | apply keeps_mv))⟩ | refine ⟨⟨l + 1, ac, .slice pp ac.2.length pc, Ep, es, .slice (some ⟨lb, 0, none⟩) 2 lcp, E ++ Fo⟩, (by simp only; omega), ⟨by show (l + 1 ≤ X.n); omega, (by rw [innerP_succ _ _ _ _ _ hp, ← hac, ls_gt hpl2 hne0 (by rw [hcp]; omega)]), hrow, hone1, (by show ac.2.length ≤ i * X.n + (l + 1); omega), fun _ => ⟨rfl, lb, lcp, jl, lx, ly, rfl, hax, List.mem_append_left _ hlm⟩⟩, hl.addE (t := 24) (hl.addE (t := 5) (hl.addE (t := 0) (hl.addE (t := 1) (hl.addE (t := 4) (hl.addE (t := 6) (hl.addE (t := 7) (hl.addE (t := 12) (hl.addE (t := 13) (hl.addE (t := 22) (hl.addE (t := 23) (hl.nil) rfl (by first | rfl | rfl)) rfl (by first | rfl | rfl)) rfl (by first | rfl | rfl)) rfl (by first | rfl | rfl)) rfl (by first | rfl | rfl)) rfl (by first | rfl | rfl)) rfl (by first | rfl | rfl)) rfl (by first | rfl | rfl)) rfl (by first | rfl | rfl)) rfl (by first | rfl | rfl)) rfl (by first | rfl | rfl), hh.keep (by repeat (first | exact keeps_nil | apply keeps_cons (by repeat (first | exact find_head | apply find_tail)) (by first  | rfl) | exact keeps_self | exact keeps_left | exact keeps_right | exact keeps_swap | apply keeps_mv))⟩ | refine ⟨⟨l + 1, ac, .slice pp ac.2.length pc, Ep, ks, kl, E⟩, (by simp only; omega), ⟨by show (l + 1 ≤ X.n); omega, (by rw [innerP_succ _ _ _ _ _ hp, ← hac, ls_placed hpl2]), hrow, hone1, (by show ac.2.length ≤ i * X.n + (l + 1); omega), hll⟩, hl.addE (t := 24) (hl.addE (t := 5) (hl.addE (t := 0) (hl.addE (t := 1) (hl.addE (t := 4) (hl.addE (t := 6) (hl.addE (t := 7) (hl.addE (t := 12) (hl.addE (t := 13) (hl.addE (t := 22) (hl.addE (t := 23) (hl.nil) rfl (by first | rfl | rfl)) rfl (by first | rfl | rfl)) rfl (by first | rfl | rfl)) rfl (by first | rfl | rfl)) rfl (by first | rfl | rfl)) rfl (by first | rfl | rfl)) rfl (by first | rfl | rfl)) rfl (by first | rfl | rfl)) rfl (by first | rfl | rfl)) rfl (by first | rfl | rfl)) rfl (by first | rfl | rfl), hh.keep (by repeat (first | exact keeps_nil | apply keeps_cons (by repeat (first | exact find_head | apply find_tail)) (by first  | rfl) | exact keeps_self | exact keeps_left | exact keeps_right | exact keeps_swap | apply keeps_mv))⟩ | (exfalso; omega)
    · intro hc1
      try simp only [decide_eq_true_eq, decide_eq_false_iff_not, Bool.not_eq_true', Bool.not_eq_false', Bool.not_eq_true, Bool.not_eq_false, Bool.and_eq_true, Bool.or_eq_true, Bool.and_eq_false_iff, Bool.or_eq_false_iff, Bool.not_not, ne_eq, Int.not_lt, Int.not_le, Decidable.not_not, beq_iff_eq, bne_iff_ne] at hc1
      have hle : l = X.n := by omega
      have hac9 := hac
      rw [hle] at hac9
      refine wp_exit ?_
      refine then_exit ?_
      refine then_exit ?_
      refine blk_exit ?_
      refine blk_normal ?_
      refine then_normal ?_
      refine c_region ?_
      first | refine wl (wl_val hl rfl trivial (r_add hl rfl rfl (by simp only [Fits]; omega)) ?_) | refine wl (wl_val hl rfl trivial (r_addW hl rfl rfl) ?_)
      clear hl a; intro a hl
      refine wl (wl_val hl rfl trivial (r_move hl rfl) ?_)
      clear hl a; intro a hl
      refine w_nil ?_
      have hl2 := hl.add (t := 0) (hl.add (t := 1) (hl.add (t := 4) (hl.add (t := 5) (hl.add (t := 12) (hl.add (t := 13) (hl.nil) rfl) rfl) rfl) rfl) rfl) rfl; clear hl; have hl := hl2; clear hl2
      refine then_normal ?_
      refine ⟨⟨i + 1, ac, pv, Ep, ks, kl, E⟩, (by simp only; omega), ⟨by simp only; omega, by rw [outerP_succ _ _ _ _ hcore]; exact hac9, hrow, hone1, by show ac.2.length ≤ (i + 1) * X.n; rw [Nat.succ_mul]; omega, hll⟩, hl.addE (t := 13) (hl.addE (t := 5) (hl.addE (t := 0) (hl.addE (t := 1) (hl.addE (t := 4) (hl.addE (t := 12) (hl.nil) rfl (by first | rfl | rfl)) rfl (by first | rfl | rfl)) rfl (by first | rfl | rfl)) rfl (by first | rfl | rfl)) rfl (by first | rfl | rfl)) rfl (by first | rfl | rfl), hh.keep (by repeat (first | exact keeps_nil | apply keeps_cons (by repeat (first | exact find_head | apply find_tail)) (by first  | rfl) | exact keeps_self | exact keeps_left | exact keeps_right | exact keeps_swap | apply keeps_mv))⟩
  · intro hc0
    try simp only [decide_eq_true_eq, decide_eq_false_iff_not, Bool.not_eq_true', Bool.not_eq_false', Bool.not_eq_true, Bool.not_eq_false, Bool.and_eq_true, Bool.or_eq_true, Bool.and_eq_false_iff, Bool.or_eq_false_iff, Bool.not_not, ne_eq, Int.not_lt, Int.not_le, Decidable.not_not, beq_iff_eq, bne_iff_ne] at hc0
    refine wp_exit ?_
    refine then_exit ?_
    refine then_exit ?_
    refine blk_exit ?_
    refine then_normal ?_
    refine c_seq ?_
    refine c_region ?_
    first | refine wl (w_loadA hl hh rfl trivial agg34 rfl (by repeat (first | exact find_head | apply find_tail)) (by first | (simp only [List.getElem?_cons_zero, List.getElem?_cons_succ, Value.cells, List.take_zero, List.take_succ_cons, List.take_nil, List.drop_zero, List.drop_succ_cons, List.drop_nil, List.length_cons, List.length_nil, List.cons_append, List.nil_append, List.append_nil, Nat.zero_add, Nat.add_zero, Nat.reduceAdd, Nat.reduceBEq, Nat.reduceEqDiff, Nat.ble, BEq.rfl, Bool.and_true, Bool.and_self, cond_true, beq_self_eq_true]; rfl)) (by first | rfl | (simp; done)) ?_) | refine wl (w_loadRA hl hh rfl trivial agg34 rfl hmb (by simp) hq1 rfl ?_)
    clear hl a; intro a hl
    refine wl (wl_val hl rfl trivial (r_move hl rfl) ?_)
    clear hl a; intro a hl
    refine wl (w_storeA hl hh trivial agg34 rfl rfl (by repeat (first | exact find_head | apply find_tail)) (by first | rfl | (simp; done)) (by first | (simp; done) | (simp; omega)) (by first | rfl | (simp; done) | exact all4 hone1) (by first | (simp only [setL, List.getElem?_cons_zero, List.getElem?_cons_succ, Value.cells, List.take_zero, List.take_succ_cons, List.take_nil, List.drop_zero, List.drop_succ_cons, List.drop_nil, List.length_cons, List.length_nil, List.cons_append, List.nil_append, List.append_nil, Nat.zero_add, Nat.add_zero, Nat.reduceAdd, Nat.reduceBEq, Nat.reduceEqDiff, Nat.ble, BEq.rfl, Bool.and_true, Bool.and_self, cond_true, beq_self_eq_true]; rfl)) ?_)
    clear hh w; intro w hh
    refine wl (wl_val hl rfl trivial (r_assign hl rfl) ?_)
    clear hl a; intro a hl
    refine w_nil ?_
    have hl2 := hl.add (t := 4) (hl.add (t := 5) (hl.nil) rfl) rfl; clear hl; have hl := hl2; clear hl2
    refine then_normal ?_
    refine wp_ret ?_
    refine f_retCT (F' := Ep ++ E) hl hh rfl rfl agg34 (by repeat (first | exact find_head | apply find_tail)) (by first | rfl | exact arrL_length _ _ | (simp; done)) rfl (by repeat (first | exact keeps_nil | apply keeps_cons (by repeat (first | exact find_head | apply find_tail)) (by first  | rfl) | exact keeps_self | exact keeps_left | exact keeps_right | exact keeps_swap | apply keeps_mv)) ?_
    exact ⟨pv, kl, ks, Ep, E, (by have hib : i = bs.length := (by omega); (rw [hib] at hac; rw [← hac]; exact hrow)), hone1, rfl, rfl⟩
end Go.Proofs.Qxb6500915a

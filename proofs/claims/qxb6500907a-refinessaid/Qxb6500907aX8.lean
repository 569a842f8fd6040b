import Derived.Test.Qxb6500907aX7
import Derived.Test.Qxb6500907aAps
namespace Go.Proofs.Qxb6500907a
open Go.Eng
set_option linter.unusedVariables false
set_option linter.unusedSimpArgs false
theorem fld82_0 : fieldOk Try.prog 82 0 0 = true := by kernel_rfl
theorem app41 : appOk Try.prog 41 5 1 1 = true := by kernel_rfl
theorem zero121 : zeroOk Try.prog 121 (.agg #[(.int .u8 0), (.int .u8 0), (.int .u8 0), (.int .u8 0), (.int .u8 0), (.int .u8 0), (.int .u8 0), (.int .u8 0), (.int .u8 0), (.int .u8 0)]) := by unfold zeroOk; kernel_rfl
theorem arr121 : arrOk Try.prog 121 10 1 = true := by kernel_rfl
/-! ## the printer, plainly -/
open Go.Lib
def bl (s : ByteArray) : List Int := s.data.toList.map (fun b => (b.toNat : Int))
theorem bl_len (s : ByteArray) : (bl s).length = s.size := by unfold bl; rw [List.length_map, Array.length_toList]; rfl
theorem str_iv (s : ByteArray) : strCells s = iv8 (bl s) := by unfold strCells iv8 bl; rw [List.map_map]; rfl
theorem iv_app (a b : List Int) : iv8 (a ++ b) = iv8 a ++ iv8 b := by unfold iv8; rw [List.map_append]
/-- decimal digits -/
def dg (n : Nat) : List Int := if n < 10 then [48 + (n : Int)] else dg (n / 10) ++ [48 + ((n % 10 : Nat) : Int)]
termination_by n
decreasing_by omega
theorem dg_lt {n : Nat} (h : n < 10) : dg n = [48 + (n : Int)] := by rw [dg, if_pos h]
theorem dg_ge {n : Nat} (h : ¬ n < 10) : dg n = dg (n / 10) ++ [48 + ((n % 10 : Nat) : Int)] := by rw [dg, if_neg h]
theorem dg_pos : ∀ n, 0 < (dg n).length := fun n => by
  by_cases h : n < 10
  · rw [dg_lt h]; simp
  · rw [dg_ge h]; simp
theorem dg_len : ∀ (k n : Nat), n < 10 ^ (k + 1) → (dg n).length ≤ k + 1
  | 0, n, h => by rw [dg_lt (by simpa using h)]; simp
  | k + 1, n, h => by
    by_cases h9 : n < 10
    · rw [dg_lt h9]; simp
    · rw [dg_ge h9, List.length_append, List.length_singleton]
      have := dg_len k (n / 10) (by rw [Nat.pow_succ] at h; omega)
      omega
theorem dg_len10 {n : Nat} (h : n ≤ 4294967295) : (dg n).length ≤ 10 := dg_len 9 n (Nat.lt_of_le_of_lt h (by decide))
/-- the digits laid so far: cells i .. 9 -/
def dpl (f : Nat → Int) (i : Nat) : List Int := (List.range (10 - i)).map (fun k => f (i + k))
theorem dpl_len (f : Nat → Int) (i : Nat) : (dpl f i).length = 10 - i := by unfold dpl; simp
theorem dpl_put (f : Nat → Int) (i : Nat) (x : Int) (h : i + 1 ≤ 10) : dpl (fun j => if j = i then x else f j) i = x :: dpl f (i + 1) := by
  unfold dpl
  rw [show 10 - i = (10 - (i + 1)) + 1 by omega, List.range_succ_eq_map, List.map_cons, List.map_map]
  refine List.cons_eq_cons.2 ⟨if_pos (Nat.add_zero i), ?_⟩
  refine List.map_congr_left fun k _ => ?_
  show (if i + (k + 1) = i then x else f (i + (k + 1))) = f (i + 1 + k)
  rw [if_neg (by omega), show i + (k + 1) = i + 1 + k by omega]
structure DgI (v0 : Nat) (i v : Nat) (f : Nat → Int) : Prop where
  i1 : 1 ≤ i
  i2 : i ≤ 10
  vb : v < 10 ^ i
  vm : v ≤ 4294967295
  eq : dg v0 = (dg v ++ dpl f i)
theorem DgI.start {v0 : Nat} (h : v0 ≤ 4294967295) (f : Nat → Int) : DgI v0 10 v0 f := ⟨by omega, by omega, Nat.lt_of_le_of_lt h (by decide), h, by rw [show dpl f 10 = [] from rfl, List.append_nil]⟩
def dgP (f : Nat → Int) (i v : Nat) : Nat → Int := fun j => if j = i - 1 then 48 + ((v % 10 : Nat) : Int) else f j
theorem DgI.next {v0 i v : Nat} {f : Nat → Int} (h : DgI v0 i v f) (hv : v / 10 ≠ 0) : DgI v0 (i - 1) (v / 10) (dgP f i v) := by
  have h1 := h.i1; have h2 := h.i2; have h3 := h.vb; have h4 := h.vm
  obtain ⟨k, rfl⟩ : ∃ k, i = k + 1 := ⟨i - 1, by omega⟩
  have hk : v / 10 < 10 ^ k := by rw [Nat.pow_succ] at h3; omega
  refine ⟨?_, by omega, hk, by omega, ?_⟩
  · rcases Nat.eq_zero_or_pos k with q | q
    · subst q; simp at hk; omega
    · exact q
  · rw [h.eq, dg_ge (show ¬ v < 10 by omega)]
    unfold dgP
    rw [Nat.add_sub_cancel, dpl_put _ _ _ (by omega), List.append_assoc]; rfl
theorem DgI.done {v0 i v : Nat} {f : Nat → Int} (h : DgI v0 i v f) (hv : v / 10 = 0) : dg v0 = dpl (dgP f i v) (i - 1) := by
  have h1 := h.i1; have h2 := h.i2
  obtain ⟨k, rfl⟩ : ∃ k, i = k + 1 := ⟨i - 1, by omega⟩
  rw [h.eq, dg_lt (show v < 10 by omega)]
  unfold dgP
  rw [Nat.add_sub_cancel, dpl_put _ _ _ (by omega), show v % 10 = v by omega]; rfl
def dgA (f : Nat → Int) : List Value := arrL 10 (fun j => .int .u8 (f j))
theorem dgA_set (f : Nat → Int) (i v : Nat) (h1 : 1 ≤ i) (h2 : i ≤ 10) : setL (dgA f) (0 + (i - 1) * 1) [.int .u8 (48 + ((v % 10 : Nat) : Int))] = dgA (dgP f i v) := by
  unfold dgA
  rw [show 0 + (i - 1) * 1 = i - 1 by omega, arrL_set (by omega)]
  refine arrL_congr fun j hj => ?_
  unfold updV dgP
  split <;> rfl
theorem dgA_cut (f : Nat → Int) (i : Nat) (h : i ≤ 10) : ((dgA f).drop (0 + i * 1)).take (iv8 (dpl f i)).length = iv8 (dpl f i) := by
  apply List.ext_getElem?
  intro k
  by_cases hk : k < 10 - i
  · rw [List.getElem?_take_of_lt (by rw [iv8_len, dpl_len]; exact hk), List.getElem?_drop]
    unfold dgA
    rw [arrL_get (by omega)]
    unfold iv8 dpl
    rw [List.getElem?_map, List.getElem?_map, List.getElem?_range hk]
    show some (Value.int .u8 (f (0 + i * 1 + k))) = some (.int .u8 (f (i + k)))
    rw [show 0 + i * 1 + k = i + k by omega]
  · rw [List.getElem?_eq_none (by rw [List.length_take, iv8_len, dpl_len]; omega), List.getElem?_eq_none (by rw [iv8_len, dpl_len]; omega)]
theorem dgA_start : C [.int .u8 0, .int .u8 0, .int .u8 0, .int .u8 0, .int .u8 0, .int .u8 0, .int .u8 0, .int .u8 0, .int .u8 0, .int .u8 0] 121 = C (dgA (fun _ => 0)) 121 := by unfold dgA arrL; rfl
theorem iv8_one (l : List Int) : (iv8 l).all (·.oneCell') = true := by
  unfold iv8; rw [List.all_map, List.all_eq_true]; intro i _; rfl
theorem quoW (v : Nat) (h : v ≤ 4294967295) : IntKind.u32.wrap (Int.tdiv (v : Int) 10) = ((v / 10 : Nat) : Int) := by
  have e : Int.tdiv (v : Int) 10 = ((v / 10 : Nat) : Int) := rfl
  rw [e]
  have h2 : v / 10 ≤ 4294967295 := by omega
  exact wrap_fits (by simp only [Fits]; omega)
/-- the printer's row -/
def PrR (b : Nat) (o : List Int) (F' : List (Nat × Obj)) : Prop := ∃ rv E, Row rv o.length (iv8 o) 1 5 E ∧ F' = (b, C [rv] 82) :: E
def sR : ByteArray := ⟨#[32, 114]⟩
def sSp : ByteArray := ⟨#[32]⟩
def sSl : ByteArray := ⟨#[47]⟩
def sNl : ByteArray := ⟨#[10]⟩
def pDev (d : Int) : List Int := [32, 114] ++ dg d.toNat
def pPre (x l : Int) : List Int := [32] ++ dg x.toNat ++ [47] ++ dg l.toNat
def pCh (c : Ch) : List Int :=
  (if c.kd = 0 then [114, 111, 117, 116, 101, 32, 97, 100, 100] ++ pDev c.dv ++ pPre c.ra c.rl ++ (if c.via = 16 then [32, 108, 111, 99, 97, 108] else [32, 118, 105, 97] ++ pDev c.via)
  else if c.kd = 1 then [114, 111, 117, 116, 101, 32, 100, 101, 108] ++ pDev c.dv ++ pPre c.ra c.rl
  else if c.kd = 2 then [97, 99, 108, 32, 105, 110, 115, 101, 114, 116] ++ pDev c.dv ++ [32] ++ dg c.ix.toNat ++ (if c.pm then [32, 112, 101, 114, 109, 105, 116] else [32, 100, 101, 110, 121]) ++ pPre c.da c.dl ++ [32, 99, 108, 97, 115, 115, 32] ++ (if c.cl = 16 then [97, 110, 121] else dg c.cl.toNat)
  else if c.kd = 3 then [97, 99, 108, 32, 114, 101, 109, 111, 118, 101] ++ pDev c.dv ++ [32] ++ dg c.ix.toNat
  else if c.kd = 4 then (if c.up then [108, 105, 110, 107, 32, 117, 112] else [108, 105, 110, 107, 32, 100, 111, 119, 110]) ++ pDev c.dv ++ pDev c.pr
  else if c.kd = 5 then (if c.up then [105, 102, 97, 99, 101, 32, 117, 112] else [105, 102, 97, 99, 101, 32, 100, 111, 119, 110]) ++ pDev c.dv ++ pDev c.pr
  else []) ++ [10]
def pTx (id : Int) (cs : List Ch) : List Int := [98, 97, 116, 99, 104, 32] ++ dg id.toNat ++ [10] ++ cs.flatMap pCh ++ [101, 110, 100, 10]


set_option maxHeartbeats 1000000 in
theorem str_spec (b : Nat) (o : List Int) (rv : Value) (E : List (Nat × Obj)) (hR : Row rv o.length (iv8 o) 1 5 E) (ho : o.length ≤ 1000000) (s : ByteArray) (l : List Int) (hbl : bl s = l) (hs : 0 < s.size ∧ s.size ≤ 100) : Sp Try.prog 31 #[.pointer (some ⟨b, 0, none⟩), .string s] ((b, C [rv] 82) :: E) (fun v F' => v = .pointer (some ⟨b, 0, none⟩) ∧ PrR b (o ++ l) F') := by
  refine f_enter (args := [.pointer (some ⟨b, 0, none⟩), .string s]) Try.func31 rfl Try.ntmps31 rfl ?_
  intro w0 w a hpre hl hh
  have hone := hR.one
  simp only [slotsFrom, Nat.reduceAdd] at hl
  refine c_seq ?_
  refine c_region ?_
  refine wl (wl_val hl rfl trivial (r_assign hl rfl) ?_)
  clear hl a; intro a hl
  refine w_nil ?_
  have hl2 := hl.add (t := 0) (hl.add (t := 1) (hl.nil) rfl) rfl; clear hl; have hl := hl2; clear hl2
  refine then_normal ?_
  refine c_seq ?_
  refine c_region ?_
  refine wl (wl_val hl rfl trivial (r_move hl rfl) ?_)
  clear hl a; intro a hl
  refine wl (wl_val hl rfl trivial (r_move hl rfl) ?_)
  clear hl a; intro a hl
  refine wl (wl_val hl rfl trivial (r_nilCheck hl rfl) ?_)
  clear hl a; intro a hl
  refine wl (wl_val hl rfl trivial (r_field hl rfl fld82_0) ?_)
  clear hl a; intro a hl
  refine wl (w_load hl hh rfl trivial one41 rfl (by repeat (first | exact find_head | apply find_tail)) (by first | rfl) ?_)
  clear hl a; intro a hl
  refine wl (wl_val hl rfl trivial (r_move hl rfl) ?_)
  clear hl a; intro a hl
  refine wl (w_appendStr hl hh rfl trivial app41 Try.underlying9 rfl rfl hR (by repeat (first | exact keeps_nil | apply keeps_cons (by repeat (first | exact find_head | apply find_tail)) (by first  | rfl) | exact keeps_self | exact keeps_left | exact keeps_right | exact keeps_swap | apply keeps_mv)) (by omega) (by omega) (by omega) (by decide) ?_)
  clear hl hh a w; intro rv2 E2 a w hR2 hl hh
  have hh3 := hh.comm; clear hh; have hh := hh3; clear hh3
  simp only [List.cons_append, List.nil_append] at hh
  refine wl (wl_val hl rfl trivial (r_nilCheck hl rfl) ?_)
  clear hl a; intro a hl
  refine wl (wl_val hl rfl trivial (r_field hl rfl fld82_0) ?_)
  clear hl a; intro a hl
  refine wl (w_store hl hh trivial one41 rfl rfl (by repeat (first | exact find_head | apply find_tail)) (by first | (simp; done) | (simp; omega)) (by first | rfl | assumption | (apply Row.one; assumption)) (by first | (simp only [setL, List.getElem?_cons_zero, List.getElem?_cons_succ, Value.cells, List.take_zero, List.take_succ_cons, List.take_nil, List.drop_zero, List.drop_succ_cons, List.drop_nil, List.length_cons, List.length_nil, List.cons_append, List.nil_append, List.append_nil, Nat.zero_add, Nat.add_zero, Nat.reduceAdd, Nat.reduceBEq, Nat.reduceEqDiff, Nat.ble, BEq.rfl, Bool.and_true, Bool.and_self, cond_true, beq_self_eq_true]; rfl)) ?_)
  clear hh w; intro w hh
  refine w_nil ?_
  have hl2 := hl.add (t := 0) (hl.nil) rfl; clear hl; have hl := hl2; clear hl2
  refine then_normal ?_
  refine c_seq ?_
  refine c_region ?_
  refine wl (wl_val hl rfl trivial (r_move hl rfl) ?_)
  clear hl a; intro a hl
  refine wl (wl_val hl rfl trivial (r_assign hl rfl) ?_)
  clear hl a; intro a hl
  refine w_nil ?_
  have hl2 := hl.add (t := 4) (hl.nil) rfl; clear hl; have hl := hl2; clear hl2
  refine then_normal ?_
  refine wp_ret ?_
  refine f_ret1 (F' := (b, C [rv2] 82) :: E2) hl hh rfl rfl (by repeat (first | exact keeps_nil | apply keeps_cons (by repeat (first | exact find_head | apply find_tail)) (by first  | rfl) | exact keeps_self | exact keeps_left | exact keeps_right | exact keeps_swap | apply keeps_mv)) ?_
  exact ⟨rfl, rv2, E2, by rw [← hbl, List.length_append, bl_len, iv_app, ← str_iv]; exact hR2, rfl⟩

set_option maxHeartbeats 1000000 in
theorem num_spec (b : Nat) (o : List Int) (rv : Value) (E : List (Nat × Obj)) (hR : Row rv o.length (iv8 o) 1 5 E) (ho : o.length ≤ 1000000) (v0 : Nat) (hv : v0 ≤ 4294967295) : Sp Try.prog 32 #[.pointer (some ⟨b, 0, none⟩), .int .u32 (v0 : Int)] ((b, C [rv] 82) :: E) (fun v F' => v = .pointer (some ⟨b, 0, none⟩) ∧ PrR b (o ++ dg v0) F') := by
  refine f_enter (args := [.pointer (some ⟨b, 0, none⟩), .int .u32 (v0 : Int)]) Try.func32 rfl Try.ntmps32 rfl ?_
  intro w0 w a hpre hl hh
  have hone := hR.one
  simp only [slotsFrom, Nat.reduceAdd] at hl
  refine c_seq ?_
  refine c_region ?_
  refine wl (wl_val hl rfl trivial (r_assign hl rfl) ?_)
  clear hl a; intro a hl
  refine w_nil ?_
  have hl2 := hl.add (t := 0) (hl.add (t := 1) (hl.nil) rfl) rfl; clear hl; have hl := hl2; clear hl2
  refine then_normal ?_
  refine c_seq ?_
  refine c_region ?_
  refine wl (w_alloc hl hh rfl trivial zero121 rfl ?_)
  clear hl hh a w; intro k5 a w hl hh
  refine w_nil ?_
  have hl2 := hl.add (t := 0) (hl.add (t := 1) (hl.add (t := 5) (hl.nil) rfl) rfl) rfl; clear hl; have hl := hl2; clear hl2
  refine then_normal ?_
  refine c_seq ?_
  refine c_region ?_
  refine wl (wl_val hl rfl trivial (r_assign hl rfl) ?_)
  clear hl a; intro a hl
  refine w_nil ?_
  have hl2 := hl.add (t := 0) (hl.add (t := 1) (hl.add (t := 5) (hl.add (t := 6) (hl.nil) rfl) rfl) rfl) rfl; clear hl; have hl := hl2; clear hl2
  refine then_normal ?_
  refine c_seq ?_
  refine wp_block ?_
  obtain ⟨KS0, hKS0, hk⟩ := (hl.add (t := 0) (hl.add (t := 5) (hl.nil) rfl) rfl).name
  obtain ⟨HS0, hHS0, hh2⟩ := hh.name (keeps_cons (b := k5) (o' := C (dgA (fun _ => 0)) 121) (by repeat (first | exact find_head | apply find_tail)) (by first | exact dgA_start | rfl) (keeps_nil))
  refine c_loop (α := Nat × Nat × (Nat → Int)) (fun s => s.1) (fun s a w => (DgI v0 s.1 s.2.1 s.2.2) ∧ Sl 30 ([(6, .int .i64 (s.1 : Int)), (1, .int .u32 (s.2.1 : Int))] ++ KS0) a ∧ Has _ w0 ([(k5, C (dgA s.2.2) 121)] ++ HS0) w) (10, v0, fun _ => 0) ⟨(DgI.start hv _), hl.addE (t := 6) (hl.addE (t := 1) (hk) rfl (by first | rfl)) rfl (by first | rfl), hh2⟩ ?_
  clear hk hh2 hl hh a w
  intro s a w hI
  obtain ⟨hS, hl, hh⟩ := hI
  subst hKS0; subst hHS0
  simp only [List.cons_append, List.nil_append, List.append_nil] at hl hh
  have hs1 := hS.i1; have hs2 := hS.i2
  refine wp_block ?_
  refine c_seq ?_
  refine c_region ?_
  refine wl (wl_val hl rfl trivial (r_move hl rfl) ?_)
  clear hl a; intro a hl
  first | refine wl (wl_val hl rfl trivial (r_sub hl rfl rfl (by simp only [Fits]; omega)) ?_) | refine wl (wl_val hl rfl trivial (r_subW hl rfl rfl) ?_)
  clear hl a; intro a hl
  rw [show ((s.1 : Nat) : Int) - 1 = ((s.1 - 1 : Nat) : Int) by omega] at hl
  refine wl (wl_val hl rfl trivial (r_assign hl rfl) ?_)
  clear hl a; intro a hl
  refine w_nil ?_
  have hl2 := hl.add (t := 0) (hl.add (t := 1) (hl.add (t := 5) (hl.add (t := 6) (hl.nil) rfl) rfl) rfl) rfl; clear hl; have hl := hl2; clear hl2
  refine then_normal ?_
  refine c_seq ?_
  refine c_region ?_
  refine wl (wl_val hl rfl trivial (r_move hl rfl) ?_)
  clear hl a; intro a hl
  refine wl (wl_val hl rfl trivial (r_move hl rfl) ?_)
  clear hl a; intro a hl
  first | refine wl (wl_val hl rfl trivial (r_rem hl rfl rfl (by omega) (by omega)) ?_) | refine wl (wl_val hl rfl trivial (r_remT hl rfl rfl (by omega)) ?_)
  clear hl a; intro a hl
  first | refine wl (wl_val hl rfl trivial (r_add hl rfl rfl (by simp only [Fits]; omega)) ?_) | refine wl (wl_val hl rfl trivial (r_addW hl rfl rfl) ?_)
  clear hl a; intro a hl
  first | refine wl (wl_val hl rfl trivial (r_conv hl rfl Try.underlying34 Try.underlying5 (by simp only [Fits]; omega)) ?_) | refine wl (wl_val hl rfl trivial (r_convW hl rfl Try.underlying34 Try.underlying5) ?_)
  clear hl a; intro a hl
  refine wl (wl_val hl rfl trivial (r_indexA hl rfl rfl arr121 (by omega) (by omega) (by first | (simp only [Int.reduceToNat]; rfl) | exact toNat_add1 _ | exact toNat_add2 _ _ | exact toNat_emod _ _ | exact Int.toNat_natCast _ | rfl)) ?_)
  clear hl a; intro a hl
  refine wl (w_store hl hh trivial one5 rfl rfl (by repeat (first | exact find_head | apply find_tail)) (by unfold dgA; rw [arrL_length]; omega) (by first | rfl | assumption | (apply Row.one; assumption)) (by exact dgA_set _ _ _ (by omega) (by omega)) ?_)
  clear hh w; intro w hh
  refine w_nil ?_
  have hl2 := hl.add (t := 0) (hl.add (t := 1) (hl.add (t := 5) (hl.add (t := 6) (hl.nil) rfl) rfl) rfl) rfl; clear hl; have hl := hl2; clear hl2
  refine then_normal ?_
  refine c_seq ?_
  refine c_region ?_
  refine wl (wl_val hl rfl trivial (r_move hl rfl) ?_)
  clear hl a; intro a hl
  first | refine wl (wl_val hl rfl trivial (r_quo hl rfl rfl (by omega) (by omega) (by simp only [Fits]; omega)) ?_) | refine wl (wl_val hl rfl trivial (r_quoT hl rfl rfl (by omega)) ?_)
  clear hl a; intro a hl
  rw [quoW _ hS.vm] at hl
  refine wl (wl_val hl rfl trivial (r_assign hl rfl) ?_)
  clear hl a; intro a hl
  refine w_nil ?_
  have hl2 := hl.add (t := 0) (hl.add (t := 1) (hl.add (t := 5) (hl.add (t := 6) (hl.nil) rfl) rfl) rfl) rfl; clear hl; have hl := hl2; clear hl2
  refine then_normal ?_
  refine c_seq ?_
  refine c_region ?_
  refine wl (wl_val hl rfl trivial (r_move hl rfl) ?_)
  clear hl a; intro a hl
  refine wl (wl_val hl rfl trivial (r_eql hl rfl rfl) ?_)
  clear hl a; intro a hl
  refine w_nil ?_
  have hl2 := hl.add (t := 0) (hl.add (t := 1) (hl.add (t := 5) (hl.add (t := 6) (hl.add (t := 18) (hl.nil) rfl) rfl) rfl) rfl) rfl; clear hl; have hl := hl2; clear hl2
  refine then_normal ?_
  refine c_cond hl rfl ?_ ?_
  · intro hc0
    try simp only [decide_eq_true_eq, decide_eq_false_iff_not, Bool.not_eq_true', Bool.not_eq_false', Bool.not_eq_true, Bool.not_eq_false, Bool.and_eq_true, Bool.or_eq_true, Bool.and_eq_false_iff, Bool.or_eq_false_iff, Bool.not_not, ne_eq, Int.not_lt, Int.not_le, Decidable.not_not, beq_iff_eq, bne_iff_ne] at hc0
    have hdn := hS.done (by omega)
    refine wp_exit ?_
    refine blk_exit_ne rfl ?_
    refine then_exit ?_
    refine blk_exit ?_
    refine then_normal ?_
    refine c_seq ?_
    refine c_draw [(b, C [rv] 82)] [8, 9, 10] mixed hh ?_
    clear hh w; intro w hh
    have hM : Mem [(b, C [rv] 82)] w := (by (repeat (first | exact Mem.nil | refine Mem.cons hh.mem (by (repeat (first | exact find_head | apply find_tail)); done) ?_ | refine Mem.consR hh (by assumption) (by simp) ?_ | fail)); done)
    refine d_take (i := 0) hl rfl (by kernel_rfl) (by kernel_rfl) (by kernel_rfl) (by kernel_rfl) (by kernel_rfl) rfl trivial (fun _ _ _ h => h) hM (fun w hC => r_move hl rfl) rfl ?_
    clear hl a; intro a hl
    refine d_take (i := 1) hl rfl (by kernel_rfl) (by kernel_rfl) (by kernel_rfl) (by kernel_rfl) (by kernel_rfl) rfl trivial (fun _ _ _ h => h) hM (fun w hC => r_move hl rfl) rfl ?_
    clear hl a; intro a hl
    refine d_take (i := 2) hl rfl (by kernel_rfl) (by kernel_rfl) (by kernel_rfl) (by kernel_rfl) (by kernel_rfl) rfl trivial (fun _ _ _ h => h) hM (fun w hC => r_nilCheck hl rfl) rfl ?_
    clear hl a; intro a hl
    refine d_take (i := 3) hl rfl (by kernel_rfl) (by kernel_rfl) (by kernel_rfl) (by kernel_rfl) (by kernel_rfl) rfl trivial (fun _ _ _ h => h) hM (fun w hC => r_field hl rfl fld82_0) rfl ?_
    clear hl a; intro a hl
    refine d_take (i := 4) hl rfl (by kernel_rfl) (by kernel_rfl) (by kernel_rfl) (by kernel_rfl) (by kernel_rfl) rfl trivial (fun _ _ _ h => h) hM (fun w hC => r_loadC hl rfl one41 hC (by repeat (first | exact find_head | apply find_tail)) (by first | rfl)) rfl ?_
    clear hl a; intro a hl
    refine d_take (i := 5) hl rfl (by kernel_rfl) (by kernel_rfl) (by kernel_rfl) (by kernel_rfl) (by kernel_rfl) rfl trivial (fun _ _ _ h => h) hM (fun w hC => r_move hl rfl) rfl ?_
    clear hl a; intro a hl
    refine d_take (i := 6) hl rfl (by kernel_rfl) (by kernel_rfl) (by kernel_rfl) (by kernel_rfl) (by kernel_rfl) rfl trivial (fun _ _ _ h => h) hM (fun w hC => r_sliceA10 hl rfl rfl arr121 (by first | trivial | (simp; done) | (simp; omega) | omega) (by first | (simp only [Int.reduceToNat]; rfl) | exact toNat_add1 _ | exact toNat_add2 _ _ | exact toNat_emod _ _ | exact Int.toNat_natCast _ | rfl)) rfl ?_
    clear hl a; intro a hl
    refine d_one (i := 7) (by kernel_rfl) rfl ?_
    try clear hM
    refine id (w_append (news := (iv8 (dpl (dgP s.2.2 s.1 s.2.1) (s.1 - 1)))) hl hh rfl trivial app41 rfl rfl rfl hR (by repeat (first | exact keeps_nil | apply keeps_cons (by repeat (first | exact find_head | apply find_tail)) (by first  | rfl) | exact keeps_self | exact keeps_left | exact keeps_right | exact keeps_swap | apply keeps_mv)) (hh.mem _ _ (Find.mem (by repeat (first | exact find_head | apply find_tail)))) (dgA_cut _ _ (by omega)) (by rw [iv8_len, dpl_len]; omega) (iv8_one _) (by omega) (by omega) (by omega) (by decide) ?_)
    clear hl hh a w; intro rv2 E2 a w hR2 hl hh
    have hh3 := hh.comm; clear hh; have hh := hh3; clear hh3
    simp only [List.cons_append, List.nil_append] at hh
    have hM : Mem [(b, C [rv] 82)] w := (by (repeat (first | exact Mem.nil | refine Mem.cons hh.mem (by (repeat (first | exact find_head | apply find_tail)); done) ?_ | refine Mem.consR hh (by assumption) (by simp) ?_ | fail)); done)
    refine d_step (fun _ => hM) ?_
    refine d_takeL (i := 8) hl rfl (by kernel_rfl) (by kernel_rfl) (by kernel_rfl) (by kernel_rfl) (by kernel_rfl) rfl trivial (fun _ _ _ h => h) (fun w => r_nilCheck hl rfl) rfl ?_
    clear hl a; intro a hl
    refine d_takeL (i := 9) hl rfl (by kernel_rfl) (by kernel_rfl) (by kernel_rfl) (by kernel_rfl) (by kernel_rfl) rfl trivial (fun _ _ _ h => h) (fun w => r_field hl rfl fld82_0) rfl ?_
    clear hl a; intro a hl
    refine d_one (i := 10) (by kernel_rfl) rfl ?_
    try clear hM
    refine id (w_store hl hh trivial one41 rfl rfl (by repeat (first | exact find_head | apply find_tail)) (by first | (simp; done) | (simp; omega)) (by first | rfl | assumption | (apply Row.one; assumption)) (by first | (simp only [setL, List.getElem?_cons_zero, List.getElem?_cons_succ, Value.cells, List.take_zero, List.take_succ_cons, List.take_nil, List.drop_zero, List.drop_succ_cons, List.drop_nil, List.length_cons, List.length_nil, List.cons_append, List.nil_append, List.append_nil, Nat.zero_add, Nat.add_zero, Nat.reduceAdd, Nat.reduceBEq, Nat.reduceEqDiff, Nat.ble, BEq.rfl, Bool.and_true, Bool.and_self, cond_true, beq_self_eq_true]; rfl)) ?_)
    clear hh w; intro w hh
    refine d_step (fun h => absurd h (by decide)) ?_
    refine d_done (by kernel_rfl) ?_
    try clear hM
    have hl2 := hl.add (t := 0) (hl.nil) rfl; clear hl; have hl := hl2; clear hl2
    refine then_normal ?_
    refine c_seq ?_
    refine c_region ?_
    refine wl (wl_val hl rfl trivial (r_move hl rfl) ?_)
    clear hl a; intro a hl
    refine wl (wl_val hl rfl trivial (r_assign hl rfl) ?_)
    clear hl a; intro a hl
    refine w_nil ?_
    have hl2 := hl.add (t := 4) (hl.nil) rfl; clear hl; have hl := hl2; clear hl2
    refine then_normal ?_
    refine wp_ret ?_
    refine f_ret1 (F' := (b, C [rv2] 82) :: E2) hl hh rfl rfl (by repeat (first | exact keeps_nil | apply keeps_cons (by repeat (first | exact find_head | apply find_tail)) (by first  | rfl) | exact keeps_self | exact keeps_left | exact keeps_right | exact keeps_swap | apply keeps_mv)) ?_
    exact ⟨rfl, rv2, E2, by rw [hdn, List.length_append, dpl_len, iv_app]; exact hR2, rfl⟩
  · intro hc0
    try simp only [decide_eq_true_eq, decide_eq_false_iff_not, Bool.not_eq_true', Bool.not_eq_false', Bool.not_eq_true, Bool.not_eq_false, Bool.and_eq_true, Bool.or_eq_true, Bool.and_eq_false_iff, Bool.or_eq_false_iff, Bool.not_not, ne_eq, Int.not_lt, Int.not_le, Decidable.not_not, beq_iff_eq, bne_iff_ne] at hc0
    refine wp_skip ?_
    refine blk_normal ?_
    refine then_normal ?_
    refine ⟨(s.1 - 1, s.2.1 / 10, dgP s.2.2 s.1 s.2.1), (by simp only; omega), (hS.next (by omega)), hl.addE (t := 6) (hl.addE (t := 1) (hl.addE (t := 0) (hl.addE (t := 5) (hl.nil) rfl (by first | rfl | rfl | exact congrArg (Value.int .i64) (by omega) | exact congrArg (Value.int .u32) (by omega))) rfl (by first | rfl | rfl | exact congrArg (Value.int .i64) (by omega) | exact congrArg (Value.int .u32) (by omega))) rfl (by first | rfl | rfl | exact congrArg (Value.int .i64) (by omega) | exact congrArg (Value.int .u32) (by omega))) rfl (by first | rfl | rfl | exact congrArg (Value.int .i64) (by omega) | exact congrArg (Value.int .u32) (by omega)), hh.keep (by repeat (first | exact keeps_nil | apply keeps_cons (by repeat (first | exact find_head | apply find_tail)) (by first  | rfl) | exact keeps_self | exact keeps_left | exact keeps_right | exact keeps_swap | apply keeps_mv))⟩

theorem numI_spec (b : Nat) (o : List Int) (rv : Value) (E : List (Nat × Obj)) (hR : Row rv o.length (iv8 o) 1 5 E) (ho : o.length ≤ 1000000) (v : Int) (h0 : 0 ≤ v) (h1 : v ≤ 4294967295) : Sp Try.prog 32 #[.pointer (some ⟨b, 0, none⟩), .int .u32 v] ((b, C [rv] 82) :: E) (fun u F' => u = .pointer (some ⟨b, 0, none⟩) ∧ PrR b (o ++ dg v.toNat) F') := by
  obtain ⟨n, rfl⟩ := Int.eq_ofNat_of_zero_le h0
  exact num_spec b o rv E hR ho n (by omega)
end Go.Proofs.Qxb6500907a

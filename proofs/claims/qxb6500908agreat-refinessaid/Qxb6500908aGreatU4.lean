import Derived.Test.Qxb6500908aGreatU0
namespace Go.Proofs.Qxb6500908aGreat
open Go.Eng
set_option linter.unusedVariables false
set_option linter.unusedSimpArgs false
theorem one5 : oneOk Tryz.prog 5 = true := by kernel_rfl
theorem slc34 : slcOk Tryz.prog 34 1 = true := by kernel_rfl
theorem app154 : appOk Tryz.prog 154 9 1 16 = true := by kernel_rfl
theorem zero9 : zeroOk Tryz.prog 9 (.string ⟨#[]⟩) := by unfold zeroOk; kernel_rfl
theorem cal61 : callable Tryz.prog 61 = true := by kernel_rfl
def alnB (c : Int) : Bool := letB c || digB c

def blkB (c : Int) : Bool := decide (c = 32) || decide (c = 9) || decide (c = 13)

theorem dropW_le (p : Int → Bool) (l : List Int) : (l.dropWhile p).length ≤ l.length := (List.dropWhile_sublist p).length_le

/-- the cells of a text -/
def iv8 (l : List Int) : List Value := l.map (fun c => .int .u8 c)

def bA (l : List Int) : ByteArray := bstr (iv8 l)

/-- runs of a kind, by positions -/
theorem run_stop {p : Int → Bool} {l : List Int} {i j : Nat} (hij : i ≤ j) (hall : ∀ k, i ≤ k → k < j → p (gD l k) = true) (hj : j ≤ l.length) (hstop : j < l.length → p (gD l j) = false) : (l.drop i).takeWhile p = (l.drop i).take (j - i) ∧ (l.drop i).dropWhile p = l.drop j := by
  obtain ⟨d, rfl⟩ : ∃ d, j = i + d := ⟨j - i, by omega⟩
  induction d generalizing i with
  | zero =>
    rw [Nat.add_zero, Nat.sub_self, List.take_zero]
    rcases Nat.lt_or_ge i l.length with h | h
    · have hs := hstop (by omega)
      rw [Nat.add_zero] at hs
      rw [dr h, List.takeWhile_cons_of_neg (by rw [hs]; simp), List.dropWhile_cons_of_neg (by rw [hs]; simp)]
      exact ⟨rfl, rfl⟩
    · rw [dr_end h]; exact ⟨rfl, rfl⟩
  | succ d ih =>
    have hi : i < l.length := by omega
    have h0 := hall i (Nat.le_refl _) (by omega)
    obtain ⟨e1, e2⟩ := ih (i := i + 1) (by omega) (fun k h1 h2 => hall k (by omega) (by omega)) (by omega) (fun h => by have := hstop (by omega); rw [show i + (d + 1) = i + 1 + d by omega] at this; exact this)
    rw [dr hi, List.takeWhile_cons_of_pos h0, List.dropWhile_cons_of_pos h0, e1, e2]
    refine ⟨?_, by rw [show i + 1 + d = i + (d + 1) by omega]⟩
    rw [show i + (d + 1) - i = (i + 1 + d - (i + 1)) + 1 by omega, List.take_succ_cons]

theorem all_ext {p : Int → Bool} {l : List Int} {i j : Nat} (h : ∀ k, i ≤ k → k < j → p (gD l k) = true) (hj : p (gD l j) = true) : ∀ k, i ≤ k → k < j + 1 → p (gD l k) = true := fun k a b => by
  by_cases e : k = j
  · rw [e]; exact hj
  · exact h k a (by omega)

theorem take_word {l : List Int} {i j : Nat} (hij : i < j) (hj : j ≤ l.length) (hall : ∀ k, i + 1 ≤ k → k < j → alnB (gD l k) = true) (hstop : j < l.length → alnB (gD l j) = false) : gD l i :: (l.drop (i + 1)).takeWhile alnB = (l.drop i).take (j - i) ∧ (l.drop (i + 1)).dropWhile alnB = l.drop j := by
  obtain ⟨e1, e2⟩ := run_stop (i := i + 1) (j := j) (by omega) hall hj hstop
  refine ⟨?_, e2⟩
  rw [e1, dr (show i < l.length by omega), show j - i = (j - (i + 1)) + 1 by omega, List.take_succ_cons]

theorem take_num {l : List Int} {i j : Nat} (hij : i < j) (hj : j ≤ l.length) (hall : ∀ k, i + 1 ≤ k → k < j → digB (gD l k) = true) (hstop : j < l.length → digB (gD l j) = false) : gD l i :: (l.drop (i + 1)).takeWhile digB = (l.drop i).take (j - i) ∧ (l.drop (i + 1)).dropWhile digB = l.drop j := by
  obtain ⟨e1, e2⟩ := run_stop (i := i + 1) (j := j) (by omega) hall hj hstop
  refine ⟨?_, e2⟩
  rw [e1, dr (show i < l.length by omega), show j - i = (j - (i + 1)) + 1 by omega, List.take_succ_cons]

theorem iv8_len (l : List Int) : (iv8 l).length = l.length := by unfold iv8; rw [List.length_map]

theorem iv8_bytes (l : List Int) : ∀ v, v ∈ iv8 l → ∃ x : Int, v = .int .u8 x := fun v hv => by
  obtain ⟨x, _, rfl⟩ := List.mem_map.1 hv
  exact ⟨x, rfl⟩

theorem gD_drop (l : List Int) (i k : Nat) : gD (l.drop i) k = gD l (i + k) := by
  unfold gD; rw [List.getD_eq_getElem?_getD, List.getD_eq_getElem?_getD, List.getElem?_drop]

theorem gD_take {l : List Int} {m k : Nat} (h : k < m) : gD (l.take m) k = gD l k := by
  unfold gD; rw [List.getD_eq_getElem?_getD, List.getD_eq_getElem?_getD, List.getElem?_take_of_lt h]

theorem gD_get {l : List Int} {k : Nat} (h : k < l.length) : l[k]? = some (gD l k) := by
  unfold gD; rw [List.getD_eq_getElem?_getD, List.getElem?_eq_getElem h]; rfl

theorem cut_iv {c : List Value} {off : Nat} {src : List Int} (hbs : ∀ i, i < src.length → c[off + i]? = some (.int .u8 (gD src i)) ∧ 0 ≤ gD src i ∧ gD src i ≤ 255) {i j : Nat} (h : i ≤ j) (hj : j ≤ src.length) : (c.drop (off + i * 1)).take (j - i) = iv8 ((src.drop i).take (j - i)) := by
  apply List.ext_getElem?
  intro k
  by_cases hk : k < j - i
  · have h1 := (hbs (i + k) (by omega)).1
    unfold iv8
    rw [List.getElem?_take_of_lt hk, List.getElem?_drop, show off + i * 1 + k = off + (i + k) by omega, h1, List.getElem?_map, List.getElem?_take_of_lt hk, List.getElem?_drop, gD_get (by omega)]
    rfl
  · rw [List.getElem?_eq_none (by rw [List.length_take]; omega), List.getElem?_eq_none (by rw [iv8_len, List.length_take]; omega)]

theorem blk_f {c : Int} (h : c ≠ 32 ∧ c ≠ 9 ∧ c ≠ 13) : blkB c = false := by unfold blkB; simp [h.1, h.2.1, h.2.2]

theorem blk_t {c : Int} (h : c = 32 ∨ c = 9 ∨ c = 13) : blkB c = true := by unfold blkB; rcases h with h | h | h <;> simp [h]

theorem aln_f {c : Int} (h1 : letB c = false) (h2 : digB c = false) : alnB c = false := by unfold alnB; rw [h1, h2]; rfl

theorem aln_l {c : Int} (h : letB c = true) : alnB c = true := by unfold alnB; rw [h]; rfl

theorem aln_d {c : Int} (h : digB c = true) : alnB c = true := by unfold alnB; rw [h]; cases letB c <;> rfl

/-- what the check of a prefix says -/
def gpF (x l : Int) : Bool := decide (l ≤ 8) && decide (bitsOf .and .u16 (IntKind.u16.wrap (x * 2 ^ (min l.toNat IntKind.u16.bits))) 255 = 0)

def wdL (l : List Int) : Option (List (List Int)) := match l with
  | [] => some []
  | c :: r => if blkB c then wdL r else if c = 47 then (wdL r).map ([c] :: ·)
    else if letB c then (wdL (r.dropWhile alnB)).map ((c :: r.takeWhile alnB) :: ·)
    else if digB c then (wdL (r.dropWhile digB)).map ((c :: r.takeWhile digB) :: ·) else none
termination_by l.length
decreasing_by
  · simp only [List.length_cons]; omega
  · simp only [List.length_cons]; omega
  · have := dropW_le alnB r; simp only [List.length_cons]; omega
  · have := dropW_le digB r; simp only [List.length_cons]; omega

theorem wdL_nil : wdL [] = some [] := by rw [wdL]

theorem wdL_cons (c : Int) (r : List Int) : wdL (c :: r) = if blkB c then wdL r else if c = 47 then (wdL r).map ([c] :: ·)
    else if letB c then (wdL (r.dropWhile alnB)).map ((c :: r.takeWhile alnB) :: ·)
    else if digB c then (wdL (r.dropWhile digB)).map ((c :: r.takeWhile digB) :: ·) else none := by rw [wdL]

theorem dr0 {l : List Int} (h : 0 < l.length) : l = gD l 0 :: l.drop 1 := by
  have := dr (l := l) (i := 0) h
  rw [List.drop_zero] at this; exact this

theorem wd_blank {l : List Int} (h : 0 < l.length) (hb : blkB (gD l 0) = true) : wdL l = wdL (l.drop 1) := by
  conv => lhs; rw [dr0 h]
  rw [wdL_cons, if_pos hb]

theorem wd_slash {l : List Int} (h : 0 < l.length) (hc : gD l 0 = 47) : wdL l = (wdL (l.drop 1)).map (l.take 1 :: ·) := by
  have e : l.take 1 = [gD l 0] := by
    conv => lhs; rw [dr0 h]
    rfl
  rw [e]
  conv => lhs; rw [dr0 h]
  rw [wdL_cons, if_neg (by rw [blk_f (by omega)]; simp), if_pos hc]

theorem wd_word {l : List Int} {j : Nat} (hb : blkB (gD l 0) = false) (h2 : gD l 0 ≠ 47) (hc : letB (gD l 0) = true) (h1 : 1 ≤ j) (hj : j ≤ l.length) (hall : ∀ k, 1 ≤ k → k < j → alnB (gD l k) = true) (hstop : j < l.length → alnB (gD l j) = false) : wdL l = (wdL (l.drop j)).map (l.take j :: ·) := by
  obtain ⟨e1, e2⟩ := take_word (l := l) (i := 0) (j := j) (by omega) hj hall hstop
  rw [List.drop_zero, Nat.sub_zero] at e1
  rw [← e1, ← e2]
  conv => lhs; rw [dr0 (l := l) (by omega)]
  rw [wdL_cons, if_neg (by rw [hb]; simp), if_neg h2, if_pos hc]

theorem wd_num {l : List Int} {j : Nat} (hb : blkB (gD l 0) = false) (h2 : gD l 0 ≠ 47) (h3 : letB (gD l 0) = false) (hc : digB (gD l 0) = true) (h1 : 1 ≤ j) (hj : j ≤ l.length) (hall : ∀ k, 1 ≤ k → k < j → digB (gD l k) = true) (hstop : j < l.length → digB (gD l j) = false) : wdL l = (wdL (l.drop j)).map (l.take j :: ·) := by
  obtain ⟨e1, e2⟩ := take_num (l := l) (i := 0) (j := j) (by omega) hj hall hstop
  rw [List.drop_zero, Nat.sub_zero] at e1
  rw [← e1, ← e2]
  conv => lhs; rw [dr0 (l := l) (by omega)]
  rw [wdL_cons, if_neg (by rw [hb]; simp), if_neg h2, if_neg (by rw [h3]; simp), if_pos hc]

theorem wd_bad {l : List Int} (h : 0 < l.length) (hb : blkB (gD l 0) = false) (h2 : gD l 0 ≠ 47) (h3 : letB (gD l 0) = false) (h4 : digB (gD l 0) = false) : wdL l = none := by
  rw [dr0 h, wdL_cons, if_neg (by rw [hb]; simp), if_neg h2, if_neg (by rw [h3]; simp), if_neg (by rw [h4]; simp)]

/-- the bytes seen from a place -/
def Vw8 (c : List Value) (o : Nat) (l : List Int) : Prop := ∀ i, i < l.length → c[o + i]? = some (.int .u8 (gD l i)) ∧ 0 ≤ gD l i ∧ gD l i ≤ 255

def sadv (cap q o : Nat) : Nat := if cap = q then o else o + q * 1

theorem Vw8.adv {c : List Value} {o : Nat} {l : List Int} (h : Vw8 c o l) {cap q : Nat} (hc : l.length ≤ cap) : Vw8 c (sadv cap q o) (l.drop q) := fun i hi => by
  rw [List.length_drop] at hi
  have := h (q + i) (by omega)
  rw [gD_drop]
  unfold sadv
  rw [if_neg (by omega), Nat.mul_one, Nat.add_assoc]
  exact this

theorem Vw8.take {c : List Value} {o : Nat} {l : List Int} (h : Vw8 c o l) (n : Nat) : Vw8 c o (l.take n) := fun i hi => by
  rw [List.length_take] at hi
  have := h i (by omega)
  rw [gD_take (by omega)]
  exact this

theorem cut0 {c : List Value} {o : Nat} {l : List Int} (h : Vw8 c o l) {n : Nat} (hn : n ≤ l.length) : (c.drop o).take n = iv8 (l.take n) := by
  have := cut_iv h (i := 0) (j := n) (Nat.zero_le _) hn
  simpa using this

def wv (t : List Int) : Value := .string (bA t)

structure WdS where
  o : Nat
  cap : Nat
  l : List Int
  acc : List (List Int)
  rv : Value
  E : List (Nat × Obj)

def WdR (B : Nat × Obj) (l : List Int) (v : Value) (F' : List (Nat × Obj)) : Prop := match wdL l with
  | none => v = .tuple #[.slice none 0 0, .bool false] ∧ F' = [B]
  | some ws => ∃ rv E, v = .tuple #[rv, .bool true] ∧ Row rv ws.length (ws.map wv) 1 9 E ∧ (ws = [] → E = []) ∧ F' = B :: E

structure WdI (c : List Value) (ls : List Int) (s : WdS) : Prop where
  vw : Vw8 c s.o s.l
  cap : s.l.length ≤ s.cap
  le : s.acc.length + s.l.length ≤ ls.length
  eq : wdL ls = (wdL s.l).map (s.acc ++ ·)
  row : Row s.rv s.acc.length (s.acc.map wv) 1 9 s.E
  e0 : s.acc = [] → s.E = []

theorem WdI.start {c : List Value} {o cap : Nat} {ls : List Int} (h : Vw8 c o ls) (hc : ls.length ≤ cap) : WdI c ls ⟨o, cap, ls, [], .slice none 0 0, []⟩ := ⟨h, hc, by simp, by cases wdL ls <;> simp, Row.nil _ _, fun _ => rfl⟩

theorem WdI.blank {c : List Value} {ls : List Int} {s : WdS} (h : WdI c ls s) (h0 : 0 < s.l.length) (hb : blkB (gD s.l 0) = true) : WdI c ls ⟨sadv s.cap 1 s.o, s.cap - 1, s.l.drop 1, s.acc, s.rv, s.E⟩ :=
  ⟨h.vw.adv h.cap, by have := h.cap; simp only [List.length_drop]; omega, by have := h.le; simp only [List.length_drop]; omega, by rw [h.eq, wd_blank h0 hb], h.row, h.e0⟩

theorem WdI.more {c : List Value} {ls : List Int} {s : WdS} (h : WdI c ls s) {n : Nat} {rv : Value} {E : List (Nat × Obj)} (h1 : 1 ≤ n ∧ n ≤ s.l.length) (hw : wdL s.l = (wdL (s.l.drop n)).map (s.l.take n :: ·)) (hr : Row rv (s.acc.length + 1) (s.acc.map wv ++ [.string (bA (s.l.take n))]) 1 9 E) : WdI c ls ⟨sadv s.cap n s.o, s.cap - n, s.l.drop n, s.acc ++ [s.l.take n], rv, E⟩ :=
  ⟨h.vw.adv h.cap, by have := h.cap; simp only [List.length_drop]; omega, by have := h.le; simp only [List.length_drop, List.length_append, List.length_cons, List.length_nil]; omega, by
    rw [h.eq, hw, Option.map_map]
    congr 1
    funext x
    simp, by simp only [List.length_append, List.map_append, List.length_cons, List.length_nil]; exact hr, fun q => by simp at q⟩

theorem WdI.done {c : List Value} {ls : List Int} {s : WdS} (h : WdI c ls s) (h0 : s.l.length = 0) (B : Nat × Obj) : WdR B ls (.tuple #[s.rv, .bool true]) (B :: s.E) := by
  have e := h.eq
  rw [List.eq_nil_of_length_eq_zero h0, wdL_nil] at e
  unfold WdR
  rw [e]
  simp only [Option.map_some, List.append_nil]
  exact ⟨_, _, rfl, h.row, h.e0, rfl⟩

theorem WdI.bad {c : List Value} {ls : List Int} {s : WdS} (h : WdI c ls s) (hb : wdL s.l = none) (B : Nat × Obj) : WdR B ls (.tuple #[.slice none 0 0, .bool false]) [B] := by
  have e := h.eq
  rw [hb] at e
  unfold WdR
  rw [e]
  exact ⟨rfl, rfl⟩

section

variable {P : Program} {n : Nat} {L : List (Nat × Value)} {a : Act} {w : World} {T : TypeId} {pos : String} {aft : Array Edge} {g : Option (Nat × Bool)} {dst : Option Nat} {x y : Operand}

theorem r_sliceS10w {t : TypeId} {b o len cap : Nat} {k : IntKind} {i : Int} (hl : Sl n L a) (hx : val L x = some (.slice (some ⟨b, o, none⟩) len cap)) (hy : val L y = some (.int k i)) (ht : slcOk P t 1 = true) (h : 0 ≤ i ∧ i ≤ len ∧ len ≤ cap) {q : Nat} (hq : i.toNat = q) :
    Gives P a ⟨dst, .slice t x (some y) none none, T, pos, aft, g⟩ w (.slice (some ⟨b, sadv cap q o, none⟩) (len - q) (cap - q)) w := by
  have := r_sliceS10x (T := T) (pos := pos) (aft := aft) (g := g) (dst := dst) (w := w) hl hx hy ht h hq
  unfold sadv
  by_cases c : cap = q
  · rw [if_pos c] at this ⊢; exact this
  · rw [if_neg c] at this ⊢; exact this

end

set_option maxHeartbeats 4000000 in
theorem wordsM (db off cap : Nat) (c : List Value) (T : TypeId) (fr : Nat × Nat) (ls : List Int) (hN : ls.length ≤ 65536) (hcap : ls.length ≤ cap) (hbs0 : Vw8 c off ls) : Sp Tryz.prog 53 #[.slice (some ⟨db, off, none⟩) ls.length cap] [(db, .cells ⟨c⟩ T fr)] (WdR (db, .cells ⟨c⟩ T fr) ls) := by
  refine f_enter (args := [.slice (some ⟨db, off, none⟩) ls.length cap]) Tryz.func53 rfl Tryz.ntmps53 rfl ?_
  intro w0 w a hpre hl hh
  simp only [slotsFrom, Nat.reduceAdd] at hl
  refine c_seq ?_
  refine c_region ?_
  refine wl (wl_val hl rfl trivial (r_assign hl rfl) ?_)
  clear hl a; intro a hl
  refine wl (wl_val hl rfl trivial (r_assign hl rfl) ?_)
  clear hl a; intro a hl
  refine w_nil ?_
  have hl2 := hl.add (t := 0) (hl.nil) rfl; clear hl; have hl := hl2; clear hl2
  refine then_normal ?_
  refine c_seq ?_
  refine c_region ?_
  refine wl (wl_val hl rfl trivial (r_assign hl rfl) ?_)
  clear hl a; intro a hl
  refine w_nil ?_
  have hl2 := hl.add (t := 0) (hl.add (t := 4) (hl.nil) rfl) rfl; clear hl; have hl := hl2; clear hl2
  refine then_normal ?_
  refine c_seq ?_
  refine wp_block ?_
  obtain ⟨KS0, hKS0, hk⟩ := (hl.nil).name
  obtain ⟨HS0, hHS0, hh2⟩ := hh.nameT (A := []) (U := []) ((by repeat (first | exact keeps_nil | exact keeps_self | exact keeps_swap | apply keeps_mv)))
  refine c_loop (α := WdS) (fun s => s.l.length) (fun s a w => (WdI c ls s) ∧ Sl 79 ([(0, .slice (some ⟨db, s.o, none⟩) s.l.length s.cap), (4, s.rv)] ++ KS0) a ∧ Has _ w0 ([] ++ (HS0 ++ s.E)) w) ⟨off, cap, ls, [], .slice none 0 0, []⟩ ⟨(WdI.start hbs0 hcap), hl.addE (t := 0) (hl.addE (t := 4) (hk) rfl (by first | rfl)) rfl (by first | rfl), hh2⟩ ?_
  clear hk hh2 hl hh a w
  intro s a w hI
  obtain ⟨hI, hl, hh⟩ := hI
  subst hKS0; subst hHS0
  simp only [List.cons_append, List.nil_append, List.append_nil] at hl hh
  have hbs := hI.vw
  have hcp := hI.cap
  have hle := hI.le
  have hrow := hI.row
  have hone : s.rv.oneCell' = true := hrow.one
  refine c_seq ?_
  refine c_seq ?_
  refine c_region ?_
  refine wl (wl_val hl rfl trivial (r_move hl rfl) ?_)
  clear hl a; intro a hl
  refine wl (wl_val hl rfl trivial (r_lenS hl rfl slc34) ?_)
  clear hl a; intro a hl
  refine wl (wl_val hl rfl trivial (r_gtr hl rfl rfl) ?_)
  clear hl a; intro a hl
  refine w_nil ?_
  have hl2 := hl.add (t := 0) (hl.add (t := 4) (hl.add (t := 9) (hl.nil) rfl) rfl) rfl; clear hl; have hl := hl2; clear hl2
  refine then_normal ?_
  refine c_cond hl rfl ?_ ?_
  · intro hc0
    try simp only [decide_eq_true_eq, decide_eq_false_iff_not, Bool.not_eq_true', Bool.not_eq_false', Bool.not_eq_true, Bool.not_eq_false, Bool.and_eq_true, Bool.or_eq_true, Bool.and_eq_false_iff, Bool.or_eq_false_iff, Bool.not_not, ne_eq, Int.not_lt, Int.not_le, Decidable.not_not, beq_iff_eq, bne_iff_ne] at hc0
    refine wp_skip ?_
    refine then_normal ?_
    refine wp_block ?_
    refine c_seq ?_
    refine c_region ?_
    refine wl (wl_val hl rfl trivial (r_assign hl rfl) ?_)
    clear hl a; intro a hl
    refine w_nil ?_
    have hl2 := hl.add (t := 0) (hl.add (t := 4) (hl.add (t := 5) (hl.nil) rfl) rfl) rfl; clear hl; have hl := hl2; clear hl2
    refine then_normal ?_
    refine c_seq ?_
    refine c_seq ?_
    refine c_region ?_
    refine wl (wl_val hl rfl trivial (r_move hl rfl) ?_)
    clear hl a; intro a hl
    refine wl (wl_val hl rfl trivial (r_indexS hl rfl rfl slc34 (by omega) (by omega) (by first | (simp only [Int.reduceToNat]; rfl) | exact toNat_add1 _ | exact toNat_add2 _ _ | exact toNat_emod _ _ | exact Int.toNat_natCast _ | rfl)) ?_)
    clear hl a; intro a hl
    refine wl (w_loadG hl hh rfl trivial one5 rfl (by repeat (first | exact find_head | apply find_tail)) (by rw [Nat.mul_one]; exact (hbs _ (by omega)).1) ?_)
    clear hl a; intro a hl
    refine wl (wl_val hl rfl trivial (r_assign hl rfl) ?_)
    clear hl a; intro a hl
    refine w_nil ?_
    have hl2 := hl.add (t := 0) (hl.add (t := 4) (hl.add (t := 5) (hl.add (t := 6) (hl.nil) rfl) rfl) rfl) rfl; clear hl; have hl := hl2; clear hl2
    refine then_normal ?_
    refine wp_block ?_
    refine c_seq ?_
    refine c_region ?_
    refine wl (wl_val hl rfl trivial (r_move hl rfl) ?_)
    clear hl a; intro a hl
    refine wl (wl_val hl rfl trivial (r_eql hl rfl rfl) ?_)
    clear hl a; intro a hl
    refine wl (wl_val hl rfl trivial (r_move hl rfl) ?_)
    clear hl a; intro a hl
    refine sl_split (t := 16) hl rfl ?_ ?_
    · intro hg1; clear hl; intro hl
      try simp only [decide_eq_true_eq, decide_eq_false_iff_not, Bool.not_eq_true', Bool.not_eq_false', Bool.not_eq_true, Bool.not_eq_false, Bool.and_eq_true, Bool.or_eq_true, Bool.and_eq_false_iff, Bool.or_eq_false_iff, Bool.not_not, ne_eq, Int.not_lt, Int.not_le, Decidable.not_not, beq_iff_eq, bne_iff_ne] at hg1
      refine wl (wl_skip hl rfl ⟨_, _, rfl, rfl, rfl⟩ ?_)
      clear hl a; intro a hl
      refine wl (wl_skip hl rfl ⟨_, _, rfl, rfl, rfl⟩ ?_)
      clear hl a; intro a hl
      refine wl (wl_val hl rfl trivial (r_pickT hl rfl rfl) ?_)
      clear hl a; intro a hl
      refine wl (wl_val hl rfl trivial (r_move hl rfl) ?_)
      clear hl a; intro a hl
      refine wl (wl_skip hl rfl ⟨_, _, rfl, rfl, rfl⟩ ?_)
      clear hl a; intro a hl
      refine wl (wl_skip hl rfl ⟨_, _, rfl, rfl, rfl⟩ ?_)
      clear hl a; intro a hl
      refine wl (wl_val hl rfl trivial (r_pickT hl rfl rfl) ?_)
      clear hl a; intro a hl
      refine wl (wl_val hl rfl trivial (r_assign hl rfl) ?_)
      clear hl a; intro a hl
      refine w_nil ?_
      have hl2 := hl.add (t := 0) (hl.add (t := 4) (hl.add (t := 5) (hl.add (t := 6) (hl.add (t := 13) (hl.nil) rfl) rfl) rfl) rfl) rfl; clear hl; have hl := hl2; clear hl2
      refine then_normal ?_
      refine c_condT hl rfl ?_
      let nn : Nat := 1
      let ac2 := s.acc
      let rv2 := s.rv
      let E2 := s.E
      have hnn : nn = 1 := rfl
      have hIN := hI.blank (by omega) (blk_t (c := gD s.l 0) (by omega))
      refine c_seq ?_
      refine c_region ?_
      refine wl (wl_val hl rfl trivial (r_move hl rfl) ?_)
      clear hl a; intro a hl
      refine wl (wl_val hl rfl trivial (r_sliceS10w hl rfl rfl slc34 (by first | trivial | (simp; done) | (simp; omega) | omega) (by first | (simp only [Int.reduceToNat]; rfl) | exact toNat_add1 _ | exact toNat_add2 _ _ | exact toNat_emod _ _ | exact Int.toNat_natCast _ | rfl)) ?_)
      clear hl a; intro a hl
      refine wl (wl_val hl rfl trivial (r_assign hl rfl) ?_)
      clear hl a; intro a hl
      refine w_nil ?_
      have hl2 := hl.add (t := 0) (hl.add (t := 4) (hl.nil) rfl) rfl; clear hl; have hl := hl2; clear hl2
      refine then_normal ?_
      refine wp_exit ?_
      refine blk_exit_ne rfl ?_
      refine then_exit ?_
      refine blk_exit ?_
      refine then_normal ?_
      refine ⟨⟨sadv s.cap nn s.o, s.cap - nn, s.l.drop nn, ac2, rv2, E2⟩, (by simp only [List.length_drop]; omega), hIN, hl.addE (t := 0) (hl.addE (t := 4) (hl.nil) rfl (by first | rfl | rfl | (simp only [List.length_drop]; done) | (simp only [List.length_drop]; rfl))) rfl (by first | rfl | rfl | (simp only [List.length_drop]; done) | (simp only [List.length_drop]; rfl)), hh.keep (by repeat (first | exact keeps_nil | apply keeps_cons (by repeat (first | exact find_head | apply find_tail)) (by first  | rfl) | exact keeps_self | exact keeps_left | exact keeps_right | exact keeps_swap | apply keeps_mv))⟩
    · intro hg1; clear hl; intro hl
      try simp only [decide_eq_true_eq, decide_eq_false_iff_not, Bool.not_eq_true', Bool.not_eq_false', Bool.not_eq_true, Bool.not_eq_false, Bool.and_eq_true, Bool.or_eq_true, Bool.and_eq_false_iff, Bool.or_eq_false_iff, Bool.not_not, ne_eq, Int.not_lt, Int.not_le, Decidable.not_not, beq_iff_eq, bne_iff_ne] at hg1
      refine wl (wl_val hl rfl ⟨_, _, rfl, rfl, rfl⟩ (r_move hl rfl) ?_)
      clear hl a; intro a hl
      refine wl (wl_val hl rfl ⟨_, _, rfl, rfl, rfl⟩ (r_eql hl rfl rfl) ?_)
      clear hl a; intro a hl
      refine wl (wl_val hl rfl trivial (r_pickF hl rfl rfl) ?_)
      clear hl a; intro a hl
      refine wl (wl_val hl rfl trivial (r_move hl rfl) ?_)
      clear hl a; intro a hl
      refine sl_split (t := 20) hl rfl ?_ ?_
      · intro hg2; clear hl; intro hl
        try simp only [decide_eq_true_eq, decide_eq_false_iff_not, Bool.not_eq_true', Bool.not_eq_false', Bool.not_eq_true, Bool.not_eq_false, Bool.and_eq_true, Bool.or_eq_true, Bool.and_eq_false_iff, Bool.or_eq_false_iff, Bool.not_not, ne_eq, Int.not_lt, Int.not_le, Decidable.not_not, beq_iff_eq, bne_iff_ne] at hg2
        refine wl (wl_skip hl rfl ⟨_, _, rfl, rfl, rfl⟩ ?_)
        clear hl a; intro a hl
        refine wl (wl_skip hl rfl ⟨_, _, rfl, rfl, rfl⟩ ?_)
        clear hl a; intro a hl
        refine wl (wl_val hl rfl trivial (r_pickT hl rfl rfl) ?_)
        clear hl a; intro a hl
        refine wl (wl_val hl rfl trivial (r_assign hl rfl) ?_)
        clear hl a; intro a hl
        refine w_nil ?_
        have hl2 := hl.add (t := 0) (hl.add (t := 4) (hl.add (t := 5) (hl.add (t := 6) (hl.add (t := 13) (hl.nil) rfl) rfl) rfl) rfl) rfl; clear hl; have hl := hl2; clear hl2
        refine then_normal ?_
        refine c_condT hl rfl ?_
        let nn : Nat := 1
        let ac2 := s.acc
        let rv2 := s.rv
        let E2 := s.E
        have hnn : nn = 1 := rfl
        have hIN := hI.blank (by omega) (blk_t (c := gD s.l 0) (by omega))
        refine c_seq ?_
        refine c_region ?_
        refine wl (wl_val hl rfl trivial (r_move hl rfl) ?_)
        clear hl a; intro a hl
        refine wl (wl_val hl rfl trivial (r_sliceS10w hl rfl rfl slc34 (by first | trivial | (simp; done) | (simp; omega) | omega) (by first | (simp only [Int.reduceToNat]; rfl) | exact toNat_add1 _ | exact toNat_add2 _ _ | exact toNat_emod _ _ | exact Int.toNat_natCast _ | rfl)) ?_)
        clear hl a; intro a hl
        refine wl (wl_val hl rfl trivial (r_assign hl rfl) ?_)
        clear hl a; intro a hl
        refine w_nil ?_
        have hl2 := hl.add (t := 0) (hl.add (t := 4) (hl.nil) rfl) rfl; clear hl; have hl := hl2; clear hl2
        refine then_normal ?_
        refine wp_exit ?_
        refine blk_exit_ne rfl ?_
        refine then_exit ?_
        refine blk_exit ?_
        refine then_normal ?_
        refine ⟨⟨sadv s.cap nn s.o, s.cap - nn, s.l.drop nn, ac2, rv2, E2⟩, (by simp only [List.length_drop]; omega), hIN, hl.addE (t := 0) (hl.addE (t := 4) (hl.nil) rfl (by first | rfl | rfl | (simp only [List.length_drop]; done) | (simp only [List.length_drop]; rfl))) rfl (by first | rfl | rfl | (simp only [List.length_drop]; done) | (simp only [List.length_drop]; rfl)), hh.keep (by repeat (first | exact keeps_nil | apply keeps_cons (by repeat (first | exact find_head | apply find_tail)) (by first  | rfl) | exact keeps_self | exact keeps_left | exact keeps_right | exact keeps_swap | apply keeps_mv))⟩
      · intro hg2; clear hl; intro hl
        try simp only [decide_eq_true_eq, decide_eq_false_iff_not, Bool.not_eq_true', Bool.not_eq_false', Bool.not_eq_true, Bool.not_eq_false, Bool.and_eq_true, Bool.or_eq_true, Bool.and_eq_false_iff, Bool.or_eq_false_iff, Bool.not_not, ne_eq, Int.not_lt, Int.not_le, Decidable.not_not, beq_iff_eq, bne_iff_ne] at hg2
        refine wl (wl_val hl rfl ⟨_, _, rfl, rfl, rfl⟩ (r_move hl rfl) ?_)
        clear hl a; intro a hl
        refine wl (wl_val hl rfl ⟨_, _, rfl, rfl, rfl⟩ (r_eql hl rfl rfl) ?_)
        clear hl a; intro a hl
        refine wl (wl_val hl rfl trivial (r_pickF hl rfl rfl) ?_)
        clear hl a; intro a hl
        refine wl (wl_val hl rfl trivial (r_assign hl rfl) ?_)
        clear hl a; intro a hl
        refine w_nil ?_
        have hl2 := hl.add (t := 0) (hl.add (t := 4) (hl.add (t := 5) (hl.add (t := 6) (hl.add (t := 13) (hl.nil) rfl) rfl) rfl) rfl) rfl; clear hl; have hl := hl2; clear hl2
        refine then_normal ?_
        refine c_cond hl rfl ?_ ?_
        · intro hc1
          try simp only [decide_eq_true_eq, decide_eq_false_iff_not, Bool.not_eq_true', Bool.not_eq_false', Bool.not_eq_true, Bool.not_eq_false, Bool.and_eq_true, Bool.or_eq_true, Bool.and_eq_false_iff, Bool.or_eq_false_iff, Bool.not_not, ne_eq, Int.not_lt, Int.not_le, Decidable.not_not, beq_iff_eq, bne_iff_ne] at hc1
          let nn : Nat := 1
          let ac2 := s.acc
          let rv2 := s.rv
          let E2 := s.E
          have hnn : nn = 1 := rfl
          have hIN := hI.blank (by omega) (blk_t (c := gD s.l 0) (by omega))
          refine c_seq ?_
          refine c_region ?_
          refine wl (wl_val hl rfl trivial (r_move hl rfl) ?_)
          clear hl a; intro a hl
          refine wl (wl_val hl rfl trivial (r_sliceS10w hl rfl rfl slc34 (by first | trivial | (simp; done) | (simp; omega) | omega) (by first | (simp only [Int.reduceToNat]; rfl) | exact toNat_add1 _ | exact toNat_add2 _ _ | exact toNat_emod _ _ | exact Int.toNat_natCast _ | rfl)) ?_)
          clear hl a; intro a hl
          refine wl (wl_val hl rfl trivial (r_assign hl rfl) ?_)
          clear hl a; intro a hl
          refine w_nil ?_
          have hl2 := hl.add (t := 0) (hl.add (t := 4) (hl.nil) rfl) rfl; clear hl; have hl := hl2; clear hl2
          refine then_normal ?_
          refine wp_exit ?_
          refine blk_exit_ne rfl ?_
          refine then_exit ?_
          refine blk_exit ?_
          refine then_normal ?_
          refine ⟨⟨sadv s.cap nn s.o, s.cap - nn, s.l.drop nn, ac2, rv2, E2⟩, (by simp only [List.length_drop]; omega), hIN, hl.addE (t := 0) (hl.addE (t := 4) (hl.nil) rfl (by first | rfl | rfl | (simp only [List.length_drop]; done) | (simp only [List.length_drop]; rfl))) rfl (by first | rfl | rfl | (simp only [List.length_drop]; done) | (simp only [List.length_drop]; rfl)), hh.keep (by repeat (first | exact keeps_nil | apply keeps_cons (by repeat (first | exact find_head | apply find_tail)) (by first  | rfl) | exact keeps_self | exact keeps_left | exact keeps_right | exact keeps_swap | apply keeps_mv))⟩
        · intro hc1
          try simp only [decide_eq_true_eq, decide_eq_false_iff_not, Bool.not_eq_true', Bool.not_eq_false', Bool.not_eq_true, Bool.not_eq_false, Bool.and_eq_true, Bool.or_eq_true, Bool.and_eq_false_iff, Bool.or_eq_false_iff, Bool.not_not, ne_eq, Int.not_lt, Int.not_le, Decidable.not_not, beq_iff_eq, bne_iff_ne] at hc1
          have hnb := blk_f (c := gD s.l 0) ⟨by omega, by omega, by omega⟩
          refine c_seq ?_
          refine c_region ?_
          refine wl (wl_val hl rfl trivial (r_move hl rfl) ?_)
          clear hl a; intro a hl
          refine wl (wl_val hl rfl trivial (r_eql hl rfl rfl) ?_)
          clear hl a; intro a hl
          refine wl (wl_val hl rfl trivial (r_assign hl rfl) ?_)
          clear hl a; intro a hl
          refine w_nil ?_
          have hl2 := hl.add (t := 0) (hl.add (t := 4) (hl.add (t := 5) (hl.add (t := 6) (hl.add (t := 26) (hl.nil) rfl) rfl) rfl) rfl) rfl; clear hl; have hl := hl2; clear hl2
          refine then_normal ?_
          refine c_cond hl rfl ?_ ?_
          · intro hc2
            try simp only [decide_eq_true_eq, decide_eq_false_iff_not, Bool.not_eq_true', Bool.not_eq_false', Bool.not_eq_true, Bool.not_eq_false, Bool.and_eq_true, Bool.or_eq_true, Bool.and_eq_false_iff, Bool.or_eq_false_iff, Bool.not_not, ne_eq, Int.not_lt, Int.not_le, Decidable.not_not, beq_iff_eq, bne_iff_ne] at hc2
            have hw := wd_slash (l := s.l) (by omega) (by omega)
            obtain ⟨nn, hnn⟩ : ∃ nn : Nat, nn = 1 := ⟨1, rfl⟩
            have hn1 : 1 ≤ nn := by omega
            have hn2 : nn ≤ s.l.length := by omega
            rw [show (1 : Int) = (nn : Int) by omega] at hl
            rw [← hnn] at hw
            refine wp_skip ?_
            refine blk_normal ?_
            refine then_normal ?_
            refine c_seq ?_
            refine c_region ?_
            refine wl (wl_val hl rfl trivial (r_move hl rfl) ?_)
            clear hl a; intro a hl
            refine wl (wl_val hl rfl trivial (r_move hl rfl) ?_)
            clear hl a; intro a hl
            refine wl (wl_val hl rfl trivial (r_move hl rfl) ?_)
            clear hl a; intro a hl
            refine wl (wl_val hl rfl trivial (r_sliceS01 (by intro q e; first | (cases e; rfl) | (cases e; done)) hl rfl rfl slc34 (by first | trivial | (simp; done) | (simp; omega) | omega) (by first | (simp only [Int.reduceToNat]; rfl) | exact toNat_add1 _ | exact toNat_add2 _ _ | exact toNat_emod _ _ | exact Int.toNat_natCast _ | rfl)) ?_)
            clear hl a; intro a hl
            refine wl (wl_val hl rfl trivial (r_bytesToString (cs := iv8 (s.l.take nn)) hl Tryz.underlying34 Tryz.underlying9 Tryz.underlying5 rfl (.inr ⟨by rw [iv8_len, List.length_take]; omega, _, _, _, _, _, rfl, hh.mem _ _ (Find.mem (by repeat (first | exact find_head | apply find_tail))), cut0 hbs (by omega)⟩) (iv8_bytes _)) ?_)
            clear hl a; intro a hl
            refine wl (w_buildSlice hl hh rfl trivial app154 zero9 rfl rfl rfl rfl rfl (by simp only [fillL, arrPl, List.range_succ, List.range_zero, List.map_cons, List.map_nil, List.map_append, List.nil_append, List.replicate_succ, List.replicate_zero, List.flatten_cons, List.flatten_nil, Nat.zero_mul, Nat.mul_one, Nat.one_mul, Nat.reduceMul, setL, List.getElem?_cons_zero, List.getElem?_cons_succ, Value.cells, List.take_zero, List.take_succ_cons, List.take_nil, List.drop_zero, List.drop_succ_cons, List.drop_nil, List.length_cons, List.length_nil, List.cons_append, List.nil_append, List.append_nil, Nat.zero_add, Nat.add_zero, Nat.reduceAdd, Nat.reduceBEq, Nat.reduceEqDiff, Nat.ble, BEq.rfl, Bool.and_true, Bool.and_self, cond_true, beq_self_eq_true]; rfl) ?_)
            clear hl hh a w; intro k73 a w hl hh
            refine wl (w_append (news := [.string (bA (s.l.take nn))]) hl hh rfl trivial app154 rfl rfl rfl hrow (by repeat (first | exact keeps_nil | apply keeps_cons (by repeat (first | exact find_head | apply find_tail)) (by first  | rfl) | exact keeps_self | exact keeps_left | exact keeps_right | exact keeps_swap | apply keeps_mv)) (hh.mem _ _ (Find.mem (by repeat (first | exact find_head | apply find_tail)))) rfl rfl rfl (by omega) (by omega) (by omega) (by decide) ?_)
            clear hl hh a w; intro rv2 E2 a w hR2 hl hh
            have hh3 := hh.comm; clear hh; have hh := hh3; clear hh3
            simp only [List.cons_append, List.nil_append] at hh
            let ac2 := s.acc ++ [s.l.take nn]
            have hIN := hI.more ⟨hn1, hn2⟩ hw hR2
            refine wl (wl_val hl rfl trivial (r_assign hl rfl) ?_)
            clear hl a; intro a hl
            refine w_nil ?_
            have hl2 := hl.add (t := 0) (hl.add (t := 4) (hl.add (t := 5) (hl.nil) rfl) rfl) rfl; clear hl; have hl := hl2; clear hl2
            refine then_normal ?_
            refine c_region ?_
            refine wl (wl_val hl rfl trivial (r_move hl rfl) ?_)
            clear hl a; intro a hl
            refine wl (wl_val hl rfl trivial (r_move hl rfl) ?_)
            clear hl a; intro a hl
            refine wl (wl_val hl rfl trivial (r_sliceS10w hl rfl rfl slc34 (by first | trivial | (simp; done) | (simp; omega) | omega) (by first | (simp only [Int.reduceToNat]; rfl) | exact toNat_add1 _ | exact toNat_add2 _ _ | exact toNat_emod _ _ | exact Int.toNat_natCast _ | rfl)) ?_)
            clear hl a; intro a hl
            refine wl (wl_val hl rfl trivial (r_assign hl rfl) ?_)
            clear hl a; intro a hl
            refine w_nil ?_
            have hl2 := hl.add (t := 0) (hl.add (t := 4) (hl.nil) rfl) rfl; clear hl; have hl := hl2; clear hl2
            refine blk_normal ?_
            refine then_normal ?_
            refine ⟨⟨sadv s.cap nn s.o, s.cap - nn, s.l.drop nn, ac2, rv2, E2⟩, (by simp only [List.length_drop]; omega), hIN, hl.addE (t := 0) (hl.addE (t := 4) (hl.nil) rfl (by first | rfl | rfl | (simp only [List.length_drop]; done) | (simp only [List.length_drop]; rfl))) rfl (by first | rfl | rfl | (simp only [List.length_drop]; done) | (simp only [List.length_drop]; rfl)), hh.keep (by repeat (first | exact keeps_nil | apply keeps_cons (by repeat (first | exact find_head | apply find_tail)) (by first  | rfl) | exact keeps_self | exact keeps_left | exact keeps_right | exact keeps_swap | apply keeps_mv))⟩
          · intro hc2
            try simp only [decide_eq_true_eq, decide_eq_false_iff_not, Bool.not_eq_true', Bool.not_eq_false', Bool.not_eq_true, Bool.not_eq_false, Bool.and_eq_true, Bool.or_eq_true, Bool.and_eq_false_iff, Bool.or_eq_false_iff, Bool.not_not, ne_eq, Int.not_lt, Int.not_le, Decidable.not_not, beq_iff_eq, bne_iff_ne] at hc2
            refine c_seq ?_
            refine c_region ?_
            refine wl (wl_val hl rfl trivial (r_move hl rfl) ?_)
            clear hl a; intro a hl
            refine wl (w_call hl hh rfl trivial rfl cal61 rfl (letterM _) (by repeat (first | exact keeps_nil | apply keeps_cons (by repeat (first | exact find_head | apply find_tail)) (by first  | rfl) | exact keeps_self | exact keeps_left | exact keeps_right | exact keeps_swap | apply keeps_mv)) trivial ?_)
            clear hl hh a w; intro vc Fc a w hR hl hh
            obtain ⟨rfl, rfl⟩ := hR
            try simp only [List.cons_append, List.nil_append] at hh
            refine wl (wl_val hl rfl trivial (r_assign hl rfl) ?_)
            clear hl a; intro a hl
            refine w_nil ?_
            have hl2 := hl.add (t := 0) (hl.add (t := 4) (hl.add (t := 5) (hl.add (t := 6) (hl.add (t := 29) (hl.nil) rfl) rfl) rfl) rfl) rfl; clear hl; have hl := hl2; clear hl2
            refine then_normal ?_
            refine c_cond hl rfl ?_ ?_
            · intro hc3
              try simp only [decide_eq_true_eq, decide_eq_false_iff_not, Bool.not_eq_true', Bool.not_eq_false', Bool.not_eq_true, Bool.not_eq_false, Bool.and_eq_true, Bool.or_eq_true, Bool.and_eq_false_iff, Bool.or_eq_false_iff, Bool.not_not, ne_eq, Int.not_lt, Int.not_le, Decidable.not_not, beq_iff_eq, bne_iff_ne] at hc3
              refine wp_block ?_
              obtain ⟨KS1, hKS1, hk⟩ := (hl.add (t := 0) (hl.add (t := 4) (hl.nil) rfl) rfl).name
              obtain ⟨HS1, hHS1, hh2⟩ := hh.name (keeps_nil)
              refine c_loop (α := Nat) (fun nn => s.l.length - nn) (fun nn a w => ((1 ≤ nn ∧ nn ≤ s.l.length) ∧ ∀ k, 1 ≤ k → k < nn → alnB (gD s.l k) = true) ∧ Sl 79 ([(5, .int .i64 (nn : Int))] ++ KS1) a ∧ Has _ w0 ([] ++ HS1) w) 1 ⟨⟨⟨Nat.le_refl _, by omega⟩, fun k a b => absurd b (by omega)⟩, hl.addE (t := 5) (hk) rfl (by first | rfl), hh2⟩ ?_
              clear hk hh2 hl hh a w
              intro nn a w hI
              obtain ⟨⟨⟨hn1, hn2⟩, hall⟩, hl, hh⟩ := hI
              subst hKS1; subst hHS1
              simp only [List.cons_append, List.nil_append, List.append_nil] at hl hh
              refine c_seq ?_
              refine c_seq ?_
              refine c_region ?_
              refine wl (wl_val hl rfl trivial (r_move hl rfl) ?_)
              clear hl a; intro a hl
              refine wl (wl_val hl rfl trivial (r_move hl rfl) ?_)
              clear hl a; intro a hl
              refine wl (wl_val hl rfl trivial (r_lenS hl rfl slc34) ?_)
              clear hl a; intro a hl
              refine wl (wl_val hl rfl trivial (r_lss hl rfl rfl) ?_)
              clear hl a; intro a hl
              refine wl (wl_val hl rfl trivial (r_move hl rfl) ?_)
              clear hl a; intro a hl
              refine sl_split (t := 36) hl rfl ?_ ?_
              · intro hg3; clear hl; intro hl
                try simp only [decide_eq_true_eq, decide_eq_false_iff_not, Bool.not_eq_true', Bool.not_eq_false', Bool.not_eq_true, Bool.not_eq_false, Bool.and_eq_true, Bool.or_eq_true, Bool.and_eq_false_iff, Bool.or_eq_false_iff, Bool.not_not, ne_eq, Int.not_lt, Int.not_le, Decidable.not_not, beq_iff_eq, bne_iff_ne] at hg3
                refine wl (wl_val hl rfl ⟨_, _, rfl, rfl, rfl⟩ (r_move hl rfl) ?_)
                clear hl a; intro a hl
                refine wl (wl_val hl rfl ⟨_, _, rfl, rfl, rfl⟩ (r_move hl rfl) ?_)
                clear hl a; intro a hl
                refine wl (wl_val hl rfl ⟨_, _, rfl, rfl, rfl⟩ (r_indexS hl rfl rfl slc34 (by omega) (by omega) (by first | (simp only [Int.reduceToNat]; rfl) | exact toNat_add1 _ | exact toNat_add2 _ _ | exact toNat_emod _ _ | exact Int.toNat_natCast _ | rfl)) ?_)
                clear hl a; intro a hl
                refine wl (w_loadG hl hh rfl ⟨_, _, rfl, rfl, rfl⟩ one5 rfl (by repeat (first | exact find_head | apply find_tail)) (by rw [Nat.mul_one]; exact (hbs _ (by omega)).1) ?_)
                clear hl a; intro a hl
                refine wl (w_call hl hh rfl ⟨_, _, rfl, rfl, rfl⟩ rfl cal61 rfl (letterM _) (by repeat (first | exact keeps_nil | apply keeps_cons (by repeat (first | exact find_head | apply find_tail)) (by first  | rfl) | exact keeps_self | exact keeps_left | exact keeps_right | exact keeps_swap | apply keeps_mv)) trivial ?_)
                clear hl hh a w; intro vc Fc a w hR hl hh
                obtain ⟨rfl, rfl⟩ := hR
                try simp only [List.cons_append, List.nil_append] at hh
                refine wl (wl_val hl rfl ⟨_, _, rfl, rfl, rfl⟩ (r_move hl rfl) ?_)
                clear hl a; intro a hl
                refine sl_split (t := 42) hl rfl ?_ ?_
                · intro hg4; clear hl; intro hl
                  try simp only [decide_eq_true_eq, decide_eq_false_iff_not, Bool.not_eq_true', Bool.not_eq_false', Bool.not_eq_true, Bool.not_eq_false, Bool.and_eq_true, Bool.or_eq_true, Bool.and_eq_false_iff, Bool.or_eq_false_iff, Bool.not_not, ne_eq, Int.not_lt, Int.not_le, Decidable.not_not, beq_iff_eq, bne_iff_ne] at hg4
                  refine wl (wl_skip hl rfl ⟨_, _, rfl, rfl, rfl⟩ ?_)
                  clear hl a; intro a hl
                  refine wl (wl_skip hl rfl ⟨_, _, rfl, rfl, rfl⟩ ?_)
                  clear hl a; intro a hl
                  refine wl (wl_skip hl rfl ⟨_, _, rfl, rfl, rfl⟩ ?_)
                  clear hl a; intro a hl
                  refine wl (wl_skip hl rfl ⟨_, _, rfl, rfl, rfl⟩ ?_)
                  clear hl a; intro a hl
                  refine wl (wl_skip hl rfl ⟨_, _, rfl, rfl, rfl⟩ ?_)
                  clear hl a; intro a hl
                  refine wl (wl_val hl rfl ⟨_, _, rfl, rfl, rfl⟩ (r_pickT hl rfl rfl) ?_)
                  clear hl a; intro a hl
                  refine wl (wl_val hl rfl trivial (r_pickT hl rfl rfl) ?_)
                  clear hl a; intro a hl
                  refine w_nil ?_
                  have hl2 := hl.add (t := 0) (hl.add (t := 4) (hl.add (t := 5) (hl.add (t := 49) (hl.nil) rfl) rfl) rfl) rfl; clear hl; have hl := hl2; clear hl2
                  refine then_normal ?_
                  refine c_condT hl rfl ?_
                  have hnn : alnB (gD s.l nn) = true := by first | exact aln_l (by assumption) | exact aln_d (by assumption)
                  refine wp_skip ?_
                  refine then_normal ?_
                  refine wp_block ?_
                  refine c_region ?_
                  refine wl (wl_val hl rfl trivial (r_move hl rfl) ?_)
                  clear hl a; intro a hl
                  first | refine wl (wl_val hl rfl trivial (r_add hl rfl rfl (by simp only [Fits]; omega)) ?_) | refine wl (wl_val hl rfl trivial (r_addW hl rfl rfl) ?_)
                  clear hl a; intro a hl
                  refine wl (wl_val hl rfl trivial (r_assign hl rfl) ?_)
                  clear hl a; intro a hl
                  refine w_nil ?_
                  have hl2 := hl.add (t := 0) (hl.add (t := 4) (hl.add (t := 5) (hl.nil) rfl) rfl) rfl; clear hl; have hl := hl2; clear hl2
                  refine blk_normal ?_
                  refine then_normal ?_
                  refine ⟨nn + 1, (by omega), ⟨⟨by omega, by omega⟩, all_ext hall hnn⟩, hl.addE (t := 5) (hl.addE (t := 0) (hl.addE (t := 4) (hl.nil) rfl (by first | rfl | (congr 1; omega))) rfl (by first | rfl | (congr 1; omega))) rfl (by first | rfl | (congr 1; omega)), hh.keep (by repeat (first | exact keeps_nil | apply keeps_cons (by repeat (first | exact find_head | apply find_tail)) (by first  | rfl) | exact keeps_self | exact keeps_left | exact keeps_right | exact keeps_swap | apply keeps_mv))⟩
                · intro hg4; clear hl; intro hl
                  try simp only [decide_eq_true_eq, decide_eq_false_iff_not, Bool.not_eq_true', Bool.not_eq_false', Bool.not_eq_true, Bool.not_eq_false, Bool.and_eq_true, Bool.or_eq_true, Bool.and_eq_false_iff, Bool.or_eq_false_iff, Bool.not_not, ne_eq, Int.not_lt, Int.not_le, Decidable.not_not, beq_iff_eq, bne_iff_ne] at hg4
                  refine wl (wl_val hl rfl ⟨_, _, rfl, rfl, rfl⟩ (r_move hl rfl) ?_)
                  clear hl a; intro a hl
                  refine wl (wl_val hl rfl ⟨_, _, rfl, rfl, rfl⟩ (r_move hl rfl) ?_)
                  clear hl a; intro a hl
                  refine wl (wl_val hl rfl ⟨_, _, rfl, rfl, rfl⟩ (r_indexS hl rfl rfl slc34 (by omega) (by omega) (by first | (simp only [Int.reduceToNat]; rfl) | exact toNat_add1 _ | exact toNat_add2 _ _ | exact toNat_emod _ _ | exact Int.toNat_natCast _ | rfl)) ?_)
                  clear hl a; intro a hl
                  refine wl (w_loadG hl hh rfl ⟨_, _, rfl, rfl, rfl⟩ one5 rfl (by repeat (first | exact find_head | apply find_tail)) (by rw [Nat.mul_one]; exact (hbs _ (by omega)).1) ?_)
                  clear hl a; intro a hl
                  refine wl (w_call hl hh rfl ⟨_, _, rfl, rfl, rfl⟩ rfl cal62 rfl (digitM _) (by repeat (first | exact keeps_nil | apply keeps_cons (by repeat (first | exact find_head | apply find_tail)) (by first  | rfl) | exact keeps_self | exact keeps_left | exact keeps_right | exact keeps_swap | apply keeps_mv)) trivial ?_)
                  clear hl hh a w; intro vc Fc a w hR hl hh
                  obtain ⟨rfl, rfl⟩ := hR
                  try simp only [List.cons_append, List.nil_append] at hh
                  refine wl (wl_val hl rfl ⟨_, _, rfl, rfl, rfl⟩ (r_pickF hl rfl rfl) ?_)
                  clear hl a; intro a hl
                  refine wl (wl_val hl rfl trivial (r_pickT hl rfl rfl) ?_)
                  clear hl a; intro a hl
                  refine w_nil ?_
                  have hl2 := hl.add (t := 0) (hl.add (t := 4) (hl.add (t := 5) (hl.add (t := 49) (hl.nil) rfl) rfl) rfl) rfl; clear hl; have hl := hl2; clear hl2
                  refine then_normal ?_
                  refine c_cond hl rfl ?_ ?_
                  · intro hc4
                    try simp only [decide_eq_true_eq, decide_eq_false_iff_not, Bool.not_eq_true', Bool.not_eq_false', Bool.not_eq_true, Bool.not_eq_false, Bool.and_eq_true, Bool.or_eq_true, Bool.and_eq_false_iff, Bool.or_eq_false_iff, Bool.not_not, ne_eq, Int.not_lt, Int.not_le, Decidable.not_not, beq_iff_eq, bne_iff_ne] at hc4
                    have hnn : alnB (gD s.l nn) = true := by first | exact aln_l (by assumption) | exact aln_d (by assumption)
                    refine wp_skip ?_
                    refine then_normal ?_
                    refine wp_block ?_
                    refine c_region ?_
                    refine wl (wl_val hl rfl trivial (r_move hl rfl) ?_)
                    clear hl a; intro a hl
                    first | refine wl (wl_val hl rfl trivial (r_add hl rfl rfl (by simp only [Fits]; omega)) ?_) | refine wl (wl_val hl rfl trivial (r_addW hl rfl rfl) ?_)
                    clear hl a; intro a hl
                    refine wl (wl_val hl rfl trivial (r_assign hl rfl) ?_)
                    clear hl a; intro a hl
                    refine w_nil ?_
                    have hl2 := hl.add (t := 0) (hl.add (t := 4) (hl.add (t := 5) (hl.nil) rfl) rfl) rfl; clear hl; have hl := hl2; clear hl2
                    refine blk_normal ?_
                    refine then_normal ?_
                    refine ⟨nn + 1, (by omega), ⟨⟨by omega, by omega⟩, all_ext hall hnn⟩, hl.addE (t := 5) (hl.addE (t := 0) (hl.addE (t := 4) (hl.nil) rfl (by first | rfl | (congr 1; omega))) rfl (by first | rfl | (congr 1; omega))) rfl (by first | rfl | (congr 1; omega)), hh.keep (by repeat (first | exact keeps_nil | apply keeps_cons (by repeat (first | exact find_head | apply find_tail)) (by first  | rfl) | exact keeps_self | exact keeps_left | exact keeps_right | exact keeps_swap | apply keeps_mv))⟩
                  · intro hc4
                    try simp only [decide_eq_true_eq, decide_eq_false_iff_not, Bool.not_eq_true', Bool.not_eq_false', Bool.not_eq_true, Bool.not_eq_false, Bool.and_eq_true, Bool.or_eq_true, Bool.and_eq_false_iff, Bool.or_eq_false_iff, Bool.not_not, ne_eq, Int.not_lt, Int.not_le, Decidable.not_not, beq_iff_eq, bne_iff_ne] at hc4
                    have hstop : nn < s.l.length → alnB (gD s.l nn) = false := by first | exact fun _ => aln_f (by assumption) (by assumption) | exact fun hq => absurd hq (by omega)
                    have hw := wd_word hnb hc2 hc3 hn1 hn2 hall hstop
                    refine wp_exit ?_
                    refine then_exit ?_
                    refine then_exit ?_
                    refine blk_exit ?_
                    refine blk_normal ?_
                    refine then_normal ?_
                    refine c_seq ?_
                    refine c_region ?_
                    refine wl (wl_val hl rfl trivial (r_move hl rfl) ?_)
                    clear hl a; intro a hl
                    refine wl (wl_val hl rfl trivial (r_move hl rfl) ?_)
                    clear hl a; intro a hl
                    refine wl (wl_val hl rfl trivial (r_move hl rfl) ?_)
                    clear hl a; intro a hl
                    refine wl (wl_val hl rfl trivial (r_sliceS01 (by intro q e; first | (cases e; rfl) | (cases e; done)) hl rfl rfl slc34 (by first | trivial | (simp; done) | (simp; omega) | omega) (by first | (simp only [Int.reduceToNat]; rfl) | exact toNat_add1 _ | exact toNat_add2 _ _ | exact toNat_emod _ _ | exact Int.toNat_natCast _ | rfl)) ?_)
                    clear hl a; intro a hl
                    refine wl (wl_val hl rfl trivial (r_bytesToString (cs := iv8 (s.l.take nn)) hl Tryz.underlying34 Tryz.underlying9 Tryz.underlying5 rfl (.inr ⟨by rw [iv8_len, List.length_take]; omega, _, _, _, _, _, rfl, hh.mem _ _ (Find.mem (by repeat (first | exact find_head | apply find_tail))), cut0 hbs (by omega)⟩) (iv8_bytes _)) ?_)
                    clear hl a; intro a hl
                    refine wl (w_buildSlice hl hh rfl trivial app154 zero9 rfl rfl rfl rfl rfl (by simp only [fillL, arrPl, List.range_succ, List.range_zero, List.map_cons, List.map_nil, List.map_append, List.nil_append, List.replicate_succ, List.replicate_zero, List.flatten_cons, List.flatten_nil, Nat.zero_mul, Nat.mul_one, Nat.one_mul, Nat.reduceMul, setL, List.getElem?_cons_zero, List.getElem?_cons_succ, Value.cells, List.take_zero, List.take_succ_cons, List.take_nil, List.drop_zero, List.drop_succ_cons, List.drop_nil, List.length_cons, List.length_nil, List.cons_append, List.nil_append, List.append_nil, Nat.zero_add, Nat.add_zero, Nat.reduceAdd, Nat.reduceBEq, Nat.reduceEqDiff, Nat.ble, BEq.rfl, Bool.and_true, Bool.and_self, cond_true, beq_self_eq_true]; rfl) ?_)
                    clear hl hh a w; intro k73 a w hl hh
                    refine wl (w_append (news := [.string (bA (s.l.take nn))]) hl hh rfl trivial app154 rfl rfl rfl hrow (by repeat (first | exact keeps_nil | apply keeps_cons (by repeat (first | exact find_head | apply find_tail)) (by first  | rfl) | exact keeps_self | exact keeps_left | exact keeps_right | exact keeps_swap | apply keeps_mv)) (hh.mem _ _ (Find.mem (by repeat (first | exact find_head | apply find_tail)))) rfl rfl rfl (by omega) (by omega) (by omega) (by decide) ?_)
                    clear hl hh a w; intro rv2 E2 a w hR2 hl hh
                    have hh3 := hh.comm; clear hh; have hh := hh3; clear hh3
                    simp only [List.cons_append, List.nil_append] at hh
                    let ac2 := s.acc ++ [s.l.take nn]
                    have hIN := hI.more ⟨hn1, hn2⟩ hw hR2
                    refine wl (wl_val hl rfl trivial (r_assign hl rfl) ?_)
                    clear hl a; intro a hl
                    refine w_nil ?_
                    have hl2 := hl.add (t := 0) (hl.add (t := 4) (hl.add (t := 5) (hl.nil) rfl) rfl) rfl; clear hl; have hl := hl2; clear hl2
                    refine then_normal ?_
                    refine c_region ?_
                    refine wl (wl_val hl rfl trivial (r_move hl rfl) ?_)
                    clear hl a; intro a hl
                    refine wl (wl_val hl rfl trivial (r_move hl rfl) ?_)
                    clear hl a; intro a hl
                    refine wl (wl_val hl rfl trivial (r_sliceS10w hl rfl rfl slc34 (by first | trivial | (simp; done) | (simp; omega) | omega) (by first | (simp only [Int.reduceToNat]; rfl) | exact toNat_add1 _ | exact toNat_add2 _ _ | exact toNat_emod _ _ | exact Int.toNat_natCast _ | rfl)) ?_)
                    clear hl a; intro a hl
                    refine wl (wl_val hl rfl trivial (r_assign hl rfl) ?_)
                    clear hl a; intro a hl
                    refine w_nil ?_
                    have hl2 := hl.add (t := 0) (hl.add (t := 4) (hl.nil) rfl) rfl; clear hl; have hl := hl2; clear hl2
                    refine blk_normal ?_
                    refine then_normal ?_
                    refine ⟨⟨sadv s.cap nn s.o, s.cap - nn, s.l.drop nn, ac2, rv2, E2⟩, (by simp only [List.length_drop]; omega), hIN, hl.addE (t := 0) (hl.addE (t := 4) (hl.nil) rfl (by first | rfl | rfl | (simp only [List.length_drop]; done) | (simp only [List.length_drop]; rfl))) rfl (by first | rfl | rfl | (simp only [List.length_drop]; done) | (simp only [List.length_drop]; rfl)), hh.keep (by repeat (first | exact keeps_nil | apply keeps_cons (by repeat (first | exact find_head | apply find_tail)) (by first  | rfl) | exact keeps_self | exact keeps_left | exact keeps_right | exact keeps_swap | apply keeps_mv))⟩
              · intro hg3; clear hl; intro hl
                try simp only [decide_eq_true_eq, decide_eq_false_iff_not, Bool.not_eq_true', Bool.not_eq_false', Bool.not_eq_true, Bool.not_eq_false, Bool.and_eq_true, Bool.or_eq_true, Bool.and_eq_false_iff, Bool.or_eq_false_iff, Bool.not_not, ne_eq, Int.not_lt, Int.not_le, Decidable.not_not, beq_iff_eq, bne_iff_ne] at hg3
                refine wl (wl_skip hl rfl ⟨_, _, rfl, rfl, rfl⟩ ?_)
                clear hl a; intro a hl
                refine wl (wl_skip hl rfl ⟨_, _, rfl, rfl, rfl⟩ ?_)
                clear hl a; intro a hl
                refine wl (wl_skip hl rfl ⟨_, _, rfl, rfl, rfl⟩ ?_)
                clear hl a; intro a hl
                refine wl (wl_skip hl rfl ⟨_, _, rfl, rfl, rfl⟩ ?_)
                clear hl a; intro a hl
                refine wl (wl_skip hl rfl ⟨_, _, rfl, rfl, rfl⟩ ?_)
                clear hl a; intro a hl
                refine wl (wl_skip hl rfl ⟨_, _, rfl, rfl, rfl⟩ ?_)
                clear hl a; intro a hl
                refine wl (wl_skipU hl rfl ⟨_, _, rfl, rfl, rfl⟩ ?_)
                clear hl a; intro a hl
                refine wl (wl_skipU hl rfl ⟨_, _, rfl, rfl, rfl⟩ ?_)
                clear hl a; intro a hl
                refine wl (wl_skipU hl rfl ⟨_, _, rfl, rfl, rfl⟩ ?_)
                clear hl a; intro a hl
                refine wl (wl_skipU hl rfl ⟨_, _, rfl, rfl, rfl⟩ ?_)
                clear hl a; intro a hl
                refine wl (wl_skipU hl rfl ⟨_, _, rfl, rfl, rfl⟩ ?_)
                clear hl a; intro a hl
                refine wl (wl_skip hl rfl ⟨_, _, rfl, rfl, rfl⟩ ?_)
                clear hl a; intro a hl
                refine wl (wl_val hl rfl trivial (r_pickF hl rfl rfl) ?_)
                clear hl a; intro a hl
                refine w_nil ?_
                have hl2 := hl.add (t := 0) (hl.add (t := 4) (hl.add (t := 5) (hl.add (t := 49) (hl.nil) rfl) rfl) rfl) rfl; clear hl; have hl := hl2; clear hl2
                refine then_normal ?_
                refine c_condF hl rfl ?_
                have hstop : nn < s.l.length → alnB (gD s.l nn) = false := by first | exact fun _ => aln_f (by assumption) (by assumption) | exact fun hq => absurd hq (by omega)
                have hw := wd_word hnb hc2 hc3 hn1 hn2 hall hstop
                refine wp_exit ?_
                refine then_exit ?_
                refine then_exit ?_
                refine blk_exit ?_
                refine blk_normal ?_
                refine then_normal ?_
                refine c_seq ?_
                refine c_region ?_
                refine wl (wl_val hl rfl trivial (r_move hl rfl) ?_)
                clear hl a; intro a hl
                refine wl (wl_val hl rfl trivial (r_move hl rfl) ?_)
                clear hl a; intro a hl
                refine wl (wl_val hl rfl trivial (r_move hl rfl) ?_)
                clear hl a; intro a hl
                refine wl (wl_val hl rfl trivial (r_sliceS01 (by intro q e; first | (cases e; rfl) | (cases e; done)) hl rfl rfl slc34 (by first | trivial | (simp; done) | (simp; omega) | omega) (by first | (simp only [Int.reduceToNat]; rfl) | exact toNat_add1 _ | exact toNat_add2 _ _ | exact toNat_emod _ _ | exact Int.toNat_natCast _ | rfl)) ?_)
                clear hl a; intro a hl
                refine wl (wl_val hl rfl trivial (r_bytesToString (cs := iv8 (s.l.take nn)) hl Tryz.underlying34 Tryz.underlying9 Tryz.underlying5 rfl (.inr ⟨by rw [iv8_len, List.length_take]; omega, _, _, _, _, _, rfl, hh.mem _ _ (Find.mem (by repeat (first | exact find_head | apply find_tail))), cut0 hbs (by omega)⟩) (iv8_bytes _)) ?_)
                clear hl a; intro a hl
                refine wl (w_buildSlice hl hh rfl trivial app154 zero9 rfl rfl rfl rfl rfl (by simp only [fillL, arrPl, List.range_succ, List.range_zero, List.map_cons, List.map_nil, List.map_append, List.nil_append, List.replicate_succ, List.replicate_zero, List.flatten_cons, List.flatten_nil, Nat.zero_mul, Nat.mul_one, Nat.one_mul, Nat.reduceMul, setL, List.getElem?_cons_zero, List.getElem?_cons_succ, Value.cells, List.take_zero, List.take_succ_cons, List.take_nil, List.drop_zero, List.drop_succ_cons, List.drop_nil, List.length_cons, List.length_nil, List.cons_append, List.nil_append, List.append_nil, Nat.zero_add, Nat.add_zero, Nat.reduceAdd, Nat.reduceBEq, Nat.reduceEqDiff, Nat.ble, BEq.rfl, Bool.and_true, Bool.and_self, cond_true, beq_self_eq_true]; rfl) ?_)
                clear hl hh a w; intro k73 a w hl hh
                refine wl (w_append (news := [.string (bA (s.l.take nn))]) hl hh rfl trivial app154 rfl rfl rfl hrow (by repeat (first | exact keeps_nil | apply keeps_cons (by repeat (first | exact find_head | apply find_tail)) (by first  | rfl) | exact keeps_self | exact keeps_left | exact keeps_right | exact keeps_swap | apply keeps_mv)) (hh.mem _ _ (Find.mem (by repeat (first | exact find_head | apply find_tail)))) rfl rfl rfl (by omega) (by omega) (by omega) (by decide) ?_)
                clear hl hh a w; intro rv2 E2 a w hR2 hl hh
                have hh3 := hh.comm; clear hh; have hh := hh3; clear hh3
                simp only [List.cons_append, List.nil_append] at hh
                let ac2 := s.acc ++ [s.l.take nn]
                have hIN := hI.more ⟨hn1, hn2⟩ hw hR2
                refine wl (wl_val hl rfl trivial (r_assign hl rfl) ?_)
                clear hl a; intro a hl
                refine w_nil ?_
                have hl2 := hl.add (t := 0) (hl.add (t := 4) (hl.add (t := 5) (hl.nil) rfl) rfl) rfl; clear hl; have hl := hl2; clear hl2
                refine then_normal ?_
                refine c_region ?_
                refine wl (wl_val hl rfl trivial (r_move hl rfl) ?_)
                clear hl a; intro a hl
                refine wl (wl_val hl rfl trivial (r_move hl rfl) ?_)
                clear hl a; intro a hl
                refine wl (wl_val hl rfl trivial (r_sliceS10w hl rfl rfl slc34 (by first | trivial | (simp; done) | (simp; omega) | omega) (by first | (simp only [Int.reduceToNat]; rfl) | exact toNat_add1 _ | exact toNat_add2 _ _ | exact toNat_emod _ _ | exact Int.toNat_natCast _ | rfl)) ?_)
                clear hl a; intro a hl
                refine wl (wl_val hl rfl trivial (r_assign hl rfl) ?_)
                clear hl a; intro a hl
                refine w_nil ?_
                have hl2 := hl.add (t := 0) (hl.add (t := 4) (hl.nil) rfl) rfl; clear hl; have hl := hl2; clear hl2
                refine blk_normal ?_
                refine then_normal ?_
                refine ⟨⟨sadv s.cap nn s.o, s.cap - nn, s.l.drop nn, ac2, rv2, E2⟩, (by simp only [List.length_drop]; omega), hIN, hl.addE (t := 0) (hl.addE (t := 4) (hl.nil) rfl (by first | rfl | rfl | (simp only [List.length_drop]; done) | (simp only [List.length_drop]; rfl))) rfl (by first | rfl | rfl | (simp only [List.length_drop]; done) | (simp only [List.length_drop]; rfl)), hh.keep (by repeat (first | exact keeps_nil | apply keeps_cons (by repeat (first | exact find_head | apply find_tail)) (by first  | rfl) | exact keeps_self | exact keeps_left | exact keeps_right | exact keeps_swap | apply keeps_mv))⟩
            · intro hc3
              try simp only [decide_eq_true_eq, decide_eq_false_iff_not, Bool.not_eq_true', Bool.not_eq_false', Bool.not_eq_true, Bool.not_eq_false, Bool.and_eq_true, Bool.or_eq_true, Bool.and_eq_false_iff, Bool.or_eq_false_iff, Bool.not_not, ne_eq, Int.not_lt, Int.not_le, Decidable.not_not, beq_iff_eq, bne_iff_ne] at hc3
              refine c_seq ?_
              refine c_region ?_
              refine wl (wl_val hl rfl trivial (r_move hl rfl) ?_)
              clear hl a; intro a hl
              refine wl (w_call hl hh rfl trivial rfl cal62 rfl (digitM _) (by repeat (first | exact keeps_nil | apply keeps_cons (by repeat (first | exact find_head | apply find_tail)) (by first  | rfl) | exact keeps_self | exact keeps_left | exact keeps_right | exact keeps_swap | apply keeps_mv)) trivial ?_)
              clear hl hh a w; intro vc Fc a w hR hl hh
              obtain ⟨rfl, rfl⟩ := hR
              try simp only [List.cons_append, List.nil_append] at hh
              refine wl (wl_val hl rfl trivial (r_assign hl rfl) ?_)
              clear hl a; intro a hl
              refine w_nil ?_
              have hl2 := hl.add (t := 0) (hl.add (t := 4) (hl.add (t := 5) (hl.add (t := 52) (hl.nil) rfl) rfl) rfl) rfl; clear hl; have hl := hl2; clear hl2
              refine then_normal ?_
              refine c_cond hl rfl ?_ ?_
              · intro hc5
                try simp only [decide_eq_true_eq, decide_eq_false_iff_not, Bool.not_eq_true', Bool.not_eq_false', Bool.not_eq_true, Bool.not_eq_false, Bool.and_eq_true, Bool.or_eq_true, Bool.and_eq_false_iff, Bool.or_eq_false_iff, Bool.not_not, ne_eq, Int.not_lt, Int.not_le, Decidable.not_not, beq_iff_eq, bne_iff_ne] at hc5
                refine wp_block ?_
                obtain ⟨KS2, hKS2, hk⟩ := (hl.add (t := 0) (hl.add (t := 4) (hl.nil) rfl) rfl).name
                obtain ⟨HS2, hHS2, hh2⟩ := hh.name (keeps_nil)
                refine c_loop (α := Nat) (fun nn => s.l.length - nn) (fun nn a w => ((1 ≤ nn ∧ nn ≤ s.l.length) ∧ ∀ k, 1 ≤ k → k < nn → digB (gD s.l k) = true) ∧ Sl 79 ([(5, .int .i64 (nn : Int))] ++ KS2) a ∧ Has _ w0 ([] ++ HS2) w) 1 ⟨⟨⟨Nat.le_refl _, by omega⟩, fun k a b => absurd b (by omega)⟩, hl.addE (t := 5) (hk) rfl (by first | rfl), hh2⟩ ?_
                clear hk hh2 hl hh a w
                intro nn a w hI
                obtain ⟨⟨⟨hn1, hn2⟩, hall⟩, hl, hh⟩ := hI
                subst hKS2; subst hHS2
                simp only [List.cons_append, List.nil_append, List.append_nil] at hl hh
                refine c_seq ?_
                refine c_seq ?_
                refine c_region ?_
                refine wl (wl_val hl rfl trivial (r_move hl rfl) ?_)
                clear hl a; intro a hl
                refine wl (wl_val hl rfl trivial (r_move hl rfl) ?_)
                clear hl a; intro a hl
                refine wl (wl_val hl rfl trivial (r_lenS hl rfl slc34) ?_)
                clear hl a; intro a hl
                refine wl (wl_val hl rfl trivial (r_lss hl rfl rfl) ?_)
                clear hl a; intro a hl
                refine wl (wl_val hl rfl trivial (r_move hl rfl) ?_)
                clear hl a; intro a hl
                refine sl_split (t := 59) hl rfl ?_ ?_
                · intro hg5; clear hl; intro hl
                  try simp only [decide_eq_true_eq, decide_eq_false_iff_not, Bool.not_eq_true', Bool.not_eq_false', Bool.not_eq_true, Bool.not_eq_false, Bool.and_eq_true, Bool.or_eq_true, Bool.and_eq_false_iff, Bool.or_eq_false_iff, Bool.not_not, ne_eq, Int.not_lt, Int.not_le, Decidable.not_not, beq_iff_eq, bne_iff_ne] at hg5
                  refine wl (wl_val hl rfl ⟨_, _, rfl, rfl, rfl⟩ (r_move hl rfl) ?_)
                  clear hl a; intro a hl
                  refine wl (wl_val hl rfl ⟨_, _, rfl, rfl, rfl⟩ (r_move hl rfl) ?_)
                  clear hl a; intro a hl
                  refine wl (wl_val hl rfl ⟨_, _, rfl, rfl, rfl⟩ (r_indexS hl rfl rfl slc34 (by omega) (by omega) (by first | (simp only [Int.reduceToNat]; rfl) | exact toNat_add1 _ | exact toNat_add2 _ _ | exact toNat_emod _ _ | exact Int.toNat_natCast _ | rfl)) ?_)
                  clear hl a; intro a hl
                  refine wl (w_loadG hl hh rfl ⟨_, _, rfl, rfl, rfl⟩ one5 rfl (by repeat (first | exact find_head | apply find_tail)) (by rw [Nat.mul_one]; exact (hbs _ (by omega)).1) ?_)
                  clear hl a; intro a hl
                  refine wl (w_call hl hh rfl ⟨_, _, rfl, rfl, rfl⟩ rfl cal62 rfl (digitM _) (by repeat (first | exact keeps_nil | apply keeps_cons (by repeat (first | exact find_head | apply find_tail)) (by first  | rfl) | exact keeps_self | exact keeps_left | exact keeps_right | exact keeps_swap | apply keeps_mv)) trivial ?_)
                  clear hl hh a w; intro vc Fc a w hR hl hh
                  obtain ⟨rfl, rfl⟩ := hR
                  try simp only [List.cons_append, List.nil_append] at hh
                  refine wl (wl_val hl rfl trivial (r_pickT hl rfl rfl) ?_)
                  clear hl a; intro a hl
                  refine w_nil ?_
                  have hl2 := hl.add (t := 0) (hl.add (t := 4) (hl.add (t := 5) (hl.add (t := 65) (hl.nil) rfl) rfl) rfl) rfl; clear hl; have hl := hl2; clear hl2
                  refine then_normal ?_
                  refine c_cond hl rfl ?_ ?_
                  · intro hc6
                    try simp only [decide_eq_true_eq, decide_eq_false_iff_not, Bool.not_eq_true', Bool.not_eq_false', Bool.not_eq_true, Bool.not_eq_false, Bool.and_eq_true, Bool.or_eq_true, Bool.and_eq_false_iff, Bool.or_eq_false_iff, Bool.not_not, ne_eq, Int.not_lt, Int.not_le, Decidable.not_not, beq_iff_eq, bne_iff_ne] at hc6
                    have hnn : digB (gD s.l nn) = true := by assumption
                    refine wp_skip ?_
                    refine then_normal ?_
                    refine wp_block ?_
                    refine c_region ?_
                    refine wl (wl_val hl rfl trivial (r_move hl rfl) ?_)
                    clear hl a; intro a hl
                    first | refine wl (wl_val hl rfl trivial (r_add hl rfl rfl (by simp only [Fits]; omega)) ?_) | refine wl (wl_val hl rfl trivial (r_addW hl rfl rfl) ?_)
                    clear hl a; intro a hl
                    refine wl (wl_val hl rfl trivial (r_assign hl rfl) ?_)
                    clear hl a; intro a hl
                    refine w_nil ?_
                    have hl2 := hl.add (t := 0) (hl.add (t := 4) (hl.add (t := 5) (hl.nil) rfl) rfl) rfl; clear hl; have hl := hl2; clear hl2
                    refine blk_normal ?_
                    refine then_normal ?_
                    refine ⟨nn + 1, (by omega), ⟨⟨by omega, by omega⟩, all_ext hall hnn⟩, hl.addE (t := 5) (hl.addE (t := 0) (hl.addE (t := 4) (hl.nil) rfl (by first | rfl | (congr 1; omega))) rfl (by first | rfl | (congr 1; omega))) rfl (by first | rfl | (congr 1; omega)), hh.keep (by repeat (first | exact keeps_nil | apply keeps_cons (by repeat (first | exact find_head | apply find_tail)) (by first  | rfl) | exact keeps_self | exact keeps_left | exact keeps_right | exact keeps_swap | apply keeps_mv))⟩
                  · intro hc6
                    try simp only [decide_eq_true_eq, decide_eq_false_iff_not, Bool.not_eq_true', Bool.not_eq_false', Bool.not_eq_true, Bool.not_eq_false, Bool.and_eq_true, Bool.or_eq_true, Bool.and_eq_false_iff, Bool.or_eq_false_iff, Bool.not_not, ne_eq, Int.not_lt, Int.not_le, Decidable.not_not, beq_iff_eq, bne_iff_ne] at hc6
                    have hstop : nn < s.l.length → digB (gD s.l nn) = false := by first | exact fun _ => (by assumption) | exact fun hq => absurd hq (by omega)
                    have hw := wd_num hnb hc2 hc3 hc5 hn1 hn2 hall hstop
                    refine wp_exit ?_
                    refine then_exit ?_
                    refine then_exit ?_
                    refine blk_exit ?_
                    refine blk_normal ?_
                    refine then_normal ?_
                    refine c_seq ?_
                    refine c_region ?_
                    refine wl (wl_val hl rfl trivial (r_move hl rfl) ?_)
                    clear hl a; intro a hl
                    refine wl (wl_val hl rfl trivial (r_move hl rfl) ?_)
                    clear hl a; intro a hl
                    refine wl (wl_val hl rfl trivial (r_move hl rfl) ?_)
                    clear hl a; intro a hl
                    refine wl (wl_val hl rfl trivial (r_sliceS01 (by intro q e; first | (cases e; rfl) | (cases e; done)) hl rfl rfl slc34 (by first | trivial | (simp; done) | (simp; omega) | omega) (by first | (simp only [Int.reduceToNat]; rfl) | exact toNat_add1 _ | exact toNat_add2 _ _ | exact toNat_emod _ _ | exact Int.toNat_natCast _ | rfl)) ?_)
                    clear hl a; intro a hl
                    refine wl (wl_val hl rfl trivial (r_bytesToString (cs := iv8 (s.l.take nn)) hl Tryz.underlying34 Tryz.underlying9 Tryz.underlying5 rfl (.inr ⟨by rw [iv8_len, List.length_take]; omega, _, _, _, _, _, rfl, hh.mem _ _ (Find.mem (by repeat (first | exact find_head | apply find_tail))), cut0 hbs (by omega)⟩) (iv8_bytes _)) ?_)
                    clear hl a; intro a hl
                    refine wl (w_buildSlice hl hh rfl trivial app154 zero9 rfl rfl rfl rfl rfl (by simp only [fillL, arrPl, List.range_succ, List.range_zero, List.map_cons, List.map_nil, List.map_append, List.nil_append, List.replicate_succ, List.replicate_zero, List.flatten_cons, List.flatten_nil, Nat.zero_mul, Nat.mul_one, Nat.one_mul, Nat.reduceMul, setL, List.getElem?_cons_zero, List.getElem?_cons_succ, Value.cells, List.take_zero, List.take_succ_cons, List.take_nil, List.drop_zero, List.drop_succ_cons, List.drop_nil, List.length_cons, List.length_nil, List.cons_append, List.nil_append, List.append_nil, Nat.zero_add, Nat.add_zero, Nat.reduceAdd, Nat.reduceBEq, Nat.reduceEqDiff, Nat.ble, BEq.rfl, Bool.and_true, Bool.and_self, cond_true, beq_self_eq_true]; rfl) ?_)
                    clear hl hh a w; intro k73 a w hl hh
                    refine wl (w_append (news := [.string (bA (s.l.take nn))]) hl hh rfl trivial app154 rfl rfl rfl hrow (by repeat (first | exact keeps_nil | apply keeps_cons (by repeat (first | exact find_head | apply find_tail)) (by first  | rfl) | exact keeps_self | exact keeps_left | exact keeps_right | exact keeps_swap | apply keeps_mv)) (hh.mem _ _ (Find.mem (by repeat (first | exact find_head | apply find_tail)))) rfl rfl rfl (by omega) (by omega) (by omega) (by decide) ?_)
                    clear hl hh a w; intro rv2 E2 a w hR2 hl hh
                    have hh3 := hh.comm; clear hh; have hh := hh3; clear hh3
                    simp only [List.cons_append, List.nil_append] at hh
                    let ac2 := s.acc ++ [s.l.take nn]
                    have hIN := hI.more ⟨hn1, hn2⟩ hw hR2
                    refine wl (wl_val hl rfl trivial (r_assign hl rfl) ?_)
                    clear hl a; intro a hl
                    refine w_nil ?_
                    have hl2 := hl.add (t := 0) (hl.add (t := 4) (hl.add (t := 5) (hl.nil) rfl) rfl) rfl; clear hl; have hl := hl2; clear hl2
                    refine then_normal ?_
                    refine c_region ?_
                    refine wl (wl_val hl rfl trivial (r_move hl rfl) ?_)
                    clear hl a; intro a hl
                    refine wl (wl_val hl rfl trivial (r_move hl rfl) ?_)
                    clear hl a; intro a hl
                    refine wl (wl_val hl rfl trivial (r_sliceS10w hl rfl rfl slc34 (by first | trivial | (simp; done) | (simp; omega) | omega) (by first | (simp only [Int.reduceToNat]; rfl) | exact toNat_add1 _ | exact toNat_add2 _ _ | exact toNat_emod _ _ | exact Int.toNat_natCast _ | rfl)) ?_)
                    clear hl a; intro a hl
                    refine wl (wl_val hl rfl trivial (r_assign hl rfl) ?_)
                    clear hl a; intro a hl
                    refine w_nil ?_
                    have hl2 := hl.add (t := 0) (hl.add (t := 4) (hl.nil) rfl) rfl; clear hl; have hl := hl2; clear hl2
                    refine blk_normal ?_
                    refine then_normal ?_
                    refine ⟨⟨sadv s.cap nn s.o, s.cap - nn, s.l.drop nn, ac2, rv2, E2⟩, (by simp only [List.length_drop]; omega), hIN, hl.addE (t := 0) (hl.addE (t := 4) (hl.nil) rfl (by first | rfl | rfl | (simp only [List.length_drop]; done) | (simp only [List.length_drop]; rfl))) rfl (by first | rfl | rfl | (simp only [List.length_drop]; done) | (simp only [List.length_drop]; rfl)), hh.keep (by repeat (first | exact keeps_nil | apply keeps_cons (by repeat (first | exact find_head | apply find_tail)) (by first  | rfl) | exact keeps_self | exact keeps_left | exact keeps_right | exact keeps_swap | apply keeps_mv))⟩
                · intro hg5; clear hl; intro hl
                  try simp only [decide_eq_true_eq, decide_eq_false_iff_not, Bool.not_eq_true', Bool.not_eq_false', Bool.not_eq_true, Bool.not_eq_false, Bool.and_eq_true, Bool.or_eq_true, Bool.and_eq_false_iff, Bool.or_eq_false_iff, Bool.not_not, ne_eq, Int.not_lt, Int.not_le, Decidable.not_not, beq_iff_eq, bne_iff_ne] at hg5
                  refine wl (wl_skip hl rfl ⟨_, _, rfl, rfl, rfl⟩ ?_)
                  clear hl a; intro a hl
                  refine wl (wl_skip hl rfl ⟨_, _, rfl, rfl, rfl⟩ ?_)
                  clear hl a; intro a hl
                  refine wl (wl_skip hl rfl ⟨_, _, rfl, rfl, rfl⟩ ?_)
                  clear hl a; intro a hl
                  refine wl (wl_skip hl rfl ⟨_, _, rfl, rfl, rfl⟩ ?_)
                  clear hl a; intro a hl
                  refine wl (wl_skip hl rfl ⟨_, _, rfl, rfl, rfl⟩ ?_)
                  clear hl a; intro a hl
                  refine wl (wl_val hl rfl trivial (r_pickF hl rfl rfl) ?_)
                  clear hl a; intro a hl
                  refine w_nil ?_
                  have hl2 := hl.add (t := 0) (hl.add (t := 4) (hl.add (t := 5) (hl.add (t := 65) (hl.nil) rfl) rfl) rfl) rfl; clear hl; have hl := hl2; clear hl2
                  refine then_normal ?_
                  refine c_condF hl rfl ?_
                  have hstop : nn < s.l.length → digB (gD s.l nn) = false := by first | exact fun _ => (by assumption) | exact fun hq => absurd hq (by omega)
                  have hw := wd_num hnb hc2 hc3 hc5 hn1 hn2 hall hstop
                  refine wp_exit ?_
                  refine then_exit ?_
                  refine then_exit ?_
                  refine blk_exit ?_
                  refine blk_normal ?_
                  refine then_normal ?_
                  refine c_seq ?_
                  refine c_region ?_
                  refine wl (wl_val hl rfl trivial (r_move hl rfl) ?_)
                  clear hl a; intro a hl
                  refine wl (wl_val hl rfl trivial (r_move hl rfl) ?_)
                  clear hl a; intro a hl
                  refine wl (wl_val hl rfl trivial (r_move hl rfl) ?_)
                  clear hl a; intro a hl
                  refine wl (wl_val hl rfl trivial (r_sliceS01 (by intro q e; first | (cases e; rfl) | (cases e; done)) hl rfl rfl slc34 (by first | trivial | (simp; done) | (simp; omega) | omega) (by first | (simp only [Int.reduceToNat]; rfl) | exact toNat_add1 _ | exact toNat_add2 _ _ | exact toNat_emod _ _ | exact Int.toNat_natCast _ | rfl)) ?_)
                  clear hl a; intro a hl
                  refine wl (wl_val hl rfl trivial (r_bytesToString (cs := iv8 (s.l.take nn)) hl Tryz.underlying34 Tryz.underlying9 Tryz.underlying5 rfl (.inr ⟨by rw [iv8_len, List.length_take]; omega, _, _, _, _, _, rfl, hh.mem _ _ (Find.mem (by repeat (first | exact find_head | apply find_tail))), cut0 hbs (by omega)⟩) (iv8_bytes _)) ?_)
                  clear hl a; intro a hl
                  refine wl (w_buildSlice hl hh rfl trivial app154 zero9 rfl rfl rfl rfl rfl (by simp only [fillL, arrPl, List.range_succ, List.range_zero, List.map_cons, List.map_nil, List.map_append, List.nil_append, List.replicate_succ, List.replicate_zero, List.flatten_cons, List.flatten_nil, Nat.zero_mul, Nat.mul_one, Nat.one_mul, Nat.reduceMul, setL, List.getElem?_cons_zero, List.getElem?_cons_succ, Value.cells, List.take_zero, List.take_succ_cons, List.take_nil, List.drop_zero, List.drop_succ_cons, List.drop_nil, List.length_cons, List.length_nil, List.cons_append, List.nil_append, List.append_nil, Nat.zero_add, Nat.add_zero, Nat.reduceAdd, Nat.reduceBEq, Nat.reduceEqDiff, Nat.ble, BEq.rfl, Bool.and_true, Bool.and_self, cond_true, beq_self_eq_true]; rfl) ?_)
                  clear hl hh a w; intro k73 a w hl hh
                  refine wl (w_append (news := [.string (bA (s.l.take nn))]) hl hh rfl trivial app154 rfl rfl rfl hrow (by repeat (first | exact keeps_nil | apply keeps_cons (by repeat (first | exact find_head | apply find_tail)) (by first  | rfl) | exact keeps_self | exact keeps_left | exact keeps_right | exact keeps_swap | apply keeps_mv)) (hh.mem _ _ (Find.mem (by repeat (first | exact find_head | apply find_tail)))) rfl rfl rfl (by omega) (by omega) (by omega) (by decide) ?_)
                  clear hl hh a w; intro rv2 E2 a w hR2 hl hh
                  have hh3 := hh.comm; clear hh; have hh := hh3; clear hh3
                  simp only [List.cons_append, List.nil_append] at hh
                  let ac2 := s.acc ++ [s.l.take nn]
                  have hIN := hI.more ⟨hn1, hn2⟩ hw hR2
                  refine wl (wl_val hl rfl trivial (r_assign hl rfl) ?_)
                  clear hl a; intro a hl
                  refine w_nil ?_
                  have hl2 := hl.add (t := 0) (hl.add (t := 4) (hl.add (t := 5) (hl.nil) rfl) rfl) rfl; clear hl; have hl := hl2; clear hl2
                  refine then_normal ?_
                  refine c_region ?_
                  refine wl (wl_val hl rfl trivial (r_move hl rfl) ?_)
                  clear hl a; intro a hl
                  refine wl (wl_val hl rfl trivial (r_move hl rfl) ?_)
                  clear hl a; intro a hl
                  refine wl (wl_val hl rfl trivial (r_sliceS10w hl rfl rfl slc34 (by first | trivial | (simp; done) | (simp; omega) | omega) (by first | (simp only [Int.reduceToNat]; rfl) | exact toNat_add1 _ | exact toNat_add2 _ _ | exact toNat_emod _ _ | exact Int.toNat_natCast _ | rfl)) ?_)
                  clear hl a; intro a hl
                  refine wl (wl_val hl rfl trivial (r_assign hl rfl) ?_)
                  clear hl a; intro a hl
                  refine w_nil ?_
                  have hl2 := hl.add (t := 0) (hl.add (t := 4) (hl.nil) rfl) rfl; clear hl; have hl := hl2; clear hl2
                  refine blk_normal ?_
                  refine then_normal ?_
                  refine ⟨⟨sadv s.cap nn s.o, s.cap - nn, s.l.drop nn, ac2, rv2, E2⟩, (by simp only [List.length_drop]; omega), hIN, hl.addE (t := 0) (hl.addE (t := 4) (hl.nil) rfl (by first | rfl | rfl | (simp only [List.length_drop]; done) | (simp only [List.length_drop]; rfl))) rfl (by first | rfl | rfl | (simp only [List.length_drop]; done) | (simp only [List.length_drop]; rfl)), hh.keep (by repeat (first | exact keeps_nil | apply keeps_cons (by repeat (first | exact find_head | apply find_tail)) (by first  | rfl) | exact keeps_self | exact keeps_left | exact keeps_right | exact keeps_swap | apply keeps_mv))⟩
              · intro hc5
                try simp only [decide_eq_true_eq, decide_eq_false_iff_not, Bool.not_eq_true', Bool.not_eq_false', Bool.not_eq_true, Bool.not_eq_false, Bool.and_eq_true, Bool.or_eq_true, Bool.and_eq_false_iff, Bool.or_eq_false_iff, Bool.not_not, ne_eq, Int.not_lt, Int.not_le, Decidable.not_not, beq_iff_eq, bne_iff_ne] at hc5
                have hbd := wd_bad (l := s.l) (by omega) hnb hc2 hc3 hc5
                refine c_seq ?_
                refine c_region ?_
                refine wl (wl_val hl rfl trivial (r_assign hl rfl) ?_)
                clear hl a; intro a hl
                refine wl (wl_val hl rfl trivial (r_assign hl rfl) ?_)
                clear hl a; intro a hl
                refine w_nil ?_
                have hl2 := hl.add (t := 2) (hl.add (t := 3) (hl.nil) rfl) rfl; clear hl; have hl := hl2; clear hl2
                refine then_normal ?_
                refine wp_ret ?_
                refine blk_ret ?_
                refine then_ret ?_
                refine blk_ret ?_
                refine then_ret ?_
                refine blk_ret ?_
                refine then_ret ?_
                refine f_ret2 (F' := [(db, .cells ⟨c⟩ T fr)]) hl hh rfl rfl rfl (by repeat (first | exact keeps_nil | apply keeps_cons (by repeat (first | exact find_head | apply find_tail)) (by first  | rfl) | exact keeps_self | exact keeps_left | exact keeps_right | exact keeps_swap | apply keeps_mv)) ?_
                exact hI.bad hbd _
  · intro hc0
    try simp only [decide_eq_true_eq, decide_eq_false_iff_not, Bool.not_eq_true', Bool.not_eq_false', Bool.not_eq_true, Bool.not_eq_false, Bool.and_eq_true, Bool.or_eq_true, Bool.and_eq_false_iff, Bool.or_eq_false_iff, Bool.not_not, ne_eq, Int.not_lt, Int.not_le, Decidable.not_not, beq_iff_eq, bne_iff_ne] at hc0
    refine wp_exit ?_
    refine then_exit ?_
    refine then_exit ?_
    refine blk_exit ?_
    refine then_normal ?_
    refine c_seq ?_
    refine c_region ?_
    refine wl (wl_val hl rfl trivial (r_move hl rfl) ?_)
    clear hl a; intro a hl
    refine wl (wl_val hl rfl trivial (r_assign hl rfl) ?_)
    clear hl a; intro a hl
    refine wl (wl_val hl rfl trivial (r_assign hl rfl) ?_)
    clear hl a; intro a hl
    refine w_nil ?_
    have hl2 := hl.add (t := 2) (hl.add (t := 3) (hl.nil) rfl) rfl; clear hl; have hl := hl2; clear hl2
    refine then_normal ?_
    refine wp_ret ?_
    refine f_ret2 (F' := (db, .cells ⟨c⟩ T fr) :: s.E) hl hh rfl rfl rfl (by repeat (first | exact keeps_nil | apply keeps_cons (by repeat (first | exact find_head | apply find_tail)) (by first  | rfl) | exact keeps_self | exact keeps_left | exact keeps_right | exact keeps_swap | apply keeps_mv)) ?_
    exact hI.done (by omega) _

def pbit (x : Int) (i : Nat) : Bool := decide (bitsOf .and .u8 (x.fdiv (2 ^ min ((i : Int)).toNat IntKind.u8.bits)) 1 = 1)

theorem gp_all : ((List.range 256).all fun x => (List.range 9).all fun l => gpF x l == (List.range (8 - l)).all fun k => !pbit x k) = true := by kernel_rfl

theorem gp_bits {x l : Int} (h1 : 0 ≤ x) (h2 : x ≤ 255) (h3 : 0 ≤ l) (h4 : l ≤ 8) : gpF x l = (List.range (8 - l.toNat)).all fun k => !pbit x k := by
  obtain ⟨n, rfl⟩ := Int.eq_ofNat_of_zero_le h1
  obtain ⟨m, rfl⟩ := Int.eq_ofNat_of_zero_le h3
  have h := gp_all
  rw [List.all_eq_true] at h
  have h5 := h n (List.mem_range.2 (by omega))
  rw [List.all_eq_true] at h5
  exact eq_of_beq (h5 m (List.mem_range.2 (by omega)))

theorem gp_no {x l : Int} (h : 8 < l) : gpF x l = false := by unfold gpF; rw [decide_eq_false (by omega)]; rfl

theorem gp_hit {x l : Int} {i : Nat} (h1 : 0 ≤ x) (h2 : x ≤ 255) (h3 : 0 ≤ l) (h4 : (i : Int) < 8 - l) (h : pbit x i = true) : gpF x l = false := by
  rw [gp_bits h1 h2 h3 (by omega)]
  cases hq : ((List.range (8 - l.toNat)).all fun k => !pbit x k)
  · rfl
  · rw [List.all_eq_true] at hq
    have := hq i (List.mem_range.2 (by omega))
    rw [h] at this; cases this

theorem gp_yes {x l : Int} (h1 : 0 ≤ x) (h2 : x ≤ 255) (h3 : 0 ≤ l) (h4 : l ≤ 8) (h : ∀ k : Nat, (k : Int) < 8 - l → pbit x k = false) : gpF x l = true := by
  rw [gp_bits h1 h2 h3 h4, List.all_eq_true]
  intro k hk
  rw [h k (by have := List.mem_range.1 hk; omega)]; rfl
end Go.Proofs.Qxb6500908aGreat

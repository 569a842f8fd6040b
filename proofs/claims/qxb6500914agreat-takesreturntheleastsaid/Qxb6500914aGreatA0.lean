import Derived.Test.Qxb6500914aGreatG1
import Derived.Test.Qxb6500914aGreatCpy
namespace Go.Proofs.Qxb6500914aGreat
open Go.Eng
set_option linter.unusedVariables false
set_option linter.unusedSimpArgs false
theorem slc230 : slcOk Tryz.prog 230 2 = true := by kernel_rfl
theorem agg172 : aggOk Tryz.prog 172 2 = true := by kernel_rfl
theorem zero172 : zeroOk Tryz.prog 172 (.agg #[(.int .u64 0), (.int .u64 0)]) := by unfold zeroOk; kernel_rfl
theorem encP_one (p : PG) (i : Nat) : (encP p i).oneCell' = true := by
  unfold encP
  repeat' (first | rfl | apply ite_one)
theorem encP_two (p : PG) (j : Nat) (h1 : 17 ≤ j) (h2 : j < 33) : encP p j = if (j - 17) % 2 = 0 then .int .u64 (p.ip ((j - 17) / 2)) else .int .u64 (p.iv ((j - 17) / 2)) := by
  unfold encP
  repeat (first | rw [if_neg (by omega)] | rw [if_pos (by omega)])
theorem encP_congr {p q : PG} {j : Nat} (h : ¬ (17 ≤ j ∧ j < 33)) (e : q = { p with ip := q.ip, iv := q.iv }) : encP q j = encP p j := by
  rw [e]
  unfold encP
  repeat' (first | rfl | (exfalso; omega) | (apply ite_same <;> intro _))
def shiftUp (p : PG) (at_ nn : Nat) : PG := { p with ip := fun j => if at_ < j ∧ j ≤ nn then p.ip (j - 1) else p.ip j, iv := fun j => if at_ < j ∧ j ≤ nn then p.iv (j - 1) else p.iv j }
def shiftDn (p : PG) (at_ nn : Nat) : PG := { p with ip := fun j => if at_ ≤ j ∧ j + 1 < nn then p.ip (j + 1) else p.ip j, iv := fun j => if at_ ≤ j ∧ j + 1 < nn then p.iv (j + 1) else p.iv j }
theorem up_copy (p : PG) (at_ nn c : Nat) (h : at_ ≤ nn ∧ nn < 8) (hc : c = nn - at_) : setL (arrL 37 (encP p)) (16 + 1 + (if 8 = at_ + 1 then 0 else (at_ + 1) * 2)) (((arrL 37 (encP p)).drop (16 + 1 + (if 8 = at_ then 0 else at_ * 2))).take (c * 2)) = arrL 37 (encP (shiftUp p at_ nn)) := by
  rw [if_neg (show ¬ 8 = at_ by omega)]
  by_cases e8 : 8 = at_ + 1
  · have hc0 : c = 0 := by omega
    subst hc0
    rw [if_pos e8, arrL_copy (by omega) (by omega)]
    refine arrL_congr fun j hj => ?_
    rw [if_neg (by omega)]
    by_cases c : 17 ≤ j ∧ j < 33
    · rw [encP_two p j c.1 c.2, encP_two _ j c.1 c.2]
      simp only [shiftUp]
      rw [if_neg (show ¬ (at_ < (j - 17) / 2 ∧ (j - 17) / 2 ≤ nn) by omega), if_neg (show ¬ (at_ < (j - 17) / 2 ∧ (j - 17) / 2 ≤ nn) by omega)]
    · exact (encP_congr c rfl).symm
  · rw [if_neg e8, arrL_copy (by omega) (by omega)]
    refine arrL_congr fun j hj => ?_
    by_cases hin : 16 + 1 + (at_ + 1) * 2 ≤ j ∧ j < 16 + 1 + (at_ + 1) * 2 + c * 2
    · rw [if_pos hin, encP_two _ _ (by omega) (by omega), encP_two _ j (by omega) (by omega)]
      simp only [shiftUp]
      rw [show (16 + 1 + at_ * 2 + (j - (16 + 1 + (at_ + 1) * 2)) - 17) % 2 = (j - 17) % 2 by omega, show (16 + 1 + at_ * 2 + (j - (16 + 1 + (at_ + 1) * 2)) - 17) / 2 = (j - 17) / 2 - 1 by omega, if_pos (show at_ < (j - 17) / 2 ∧ (j - 17) / 2 ≤ nn by omega), if_pos (show at_ < (j - 17) / 2 ∧ (j - 17) / 2 ≤ nn by omega)]
    · rw [if_neg hin]
      by_cases c : 17 ≤ j ∧ j < 33
      · rw [encP_two p j c.1 c.2, encP_two _ j c.1 c.2]
        simp only [shiftUp]
        rw [if_neg (show ¬ (at_ < (j - 17) / 2 ∧ (j - 17) / 2 ≤ nn) by omega), if_neg (show ¬ (at_ < (j - 17) / 2 ∧ (j - 17) / 2 ≤ nn) by omega)]
      · exact (encP_congr c rfl).symm
theorem dn_copy (p : PG) (at_ nn c : Nat) (h : at_ < nn ∧ nn ≤ 8) (hc : c = nn - (at_ + 1)) : setL (arrL 37 (encP p)) (16 + 1 + (if 8 = at_ then 0 else at_ * 2)) (((arrL 37 (encP p)).drop (16 + 1 + (if 8 = at_ + 1 then 0 else (at_ + 1) * 2))).take (c * 2)) = arrL 37 (encP (shiftDn p at_ nn)) := by
  rw [if_neg (show ¬ 8 = at_ by omega)]
  by_cases e8 : 8 = at_ + 1
  · have hc0 : c = 0 := by omega
    subst hc0
    rw [if_pos e8, arrL_copy (by omega) (by omega)]
    refine arrL_congr fun j hj => ?_
    rw [if_neg (by omega)]
    by_cases c : 17 ≤ j ∧ j < 33
    · rw [encP_two p j c.1 c.2, encP_two _ j c.1 c.2]
      simp only [shiftDn]
      rw [if_neg (show ¬ (at_ ≤ (j - 17) / 2 ∧ (j - 17) / 2 + 1 < nn) by omega), if_neg (show ¬ (at_ ≤ (j - 17) / 2 ∧ (j - 17) / 2 + 1 < nn) by omega)]
    · exact (encP_congr c rfl).symm
  · rw [if_neg e8, arrL_copy (by omega) (by omega)]
    refine arrL_congr fun j hj => ?_
    by_cases hin : 16 + 1 + at_ * 2 ≤ j ∧ j < 16 + 1 + at_ * 2 + c * 2
    · rw [if_pos hin, encP_two _ _ (by omega) (by omega), encP_two _ j (by omega) (by omega)]
      simp only [shiftDn]
      rw [show (16 + 1 + (at_ + 1) * 2 + (j - (16 + 1 + at_ * 2)) - 17) % 2 = (j - 17) % 2 by omega, show (16 + 1 + (at_ + 1) * 2 + (j - (16 + 1 + at_ * 2)) - 17) / 2 = (j - 17) / 2 + 1 by omega, if_pos (show at_ ≤ (j - 17) / 2 ∧ (j - 17) / 2 + 1 < nn by omega), if_pos (show at_ ≤ (j - 17) / 2 ∧ (j - 17) / 2 + 1 < nn by omega)]
    · rw [if_neg hin]
      by_cases c : 17 ≤ j ∧ j < 33
      · rw [encP_two p j c.1 c.2, encP_two _ j c.1 c.2]
        simp only [shiftDn]
        rw [if_neg (show ¬ (at_ ≤ (j - 17) / 2 ∧ (j - 17) / 2 + 1 < nn) by omega), if_neg (show ¬ (at_ ≤ (j - 17) / 2 ∧ (j - 17) / 2 + 1 < nn) by omega)]
      · exact (encP_congr c rfl).symm
theorem ldA_item (p : PG) (i : Nat) (h : i < 8) : ((arrL 37 (encP p)).drop (16 + 1 + i * 2)).take 2 = [.int .u64 (p.ip i), .int .u64 (p.iv i)] := by
  apply List.ext_getElem?
  intro j
  rw [List.getElem?_take]
  match j with
  | 0 => rw [if_pos (by omega), List.getElem?_drop]; exact ld_sip p i h
  | 1 => rw [if_pos (by omega), List.getElem?_drop]; exact ld_siv p i h
  | j + 2 => rw [if_neg (by omega)]; rfl
theorem stA_item (p : PG) (i : Nat) (x y : Int) (h : i < 8) : setL (arrL 37 (encP p)) (16 + 1 + i * 2) [.int .u64 x, .int .u64 y] = arrL 37 (encP ((p.s_ip i x).s_iv i y)) := by
  have h1 := st_sip p i x h
  have h2 := st_siv (p.s_ip i x) i y h
  rw [← h2, ← h1, show 16 + 1 + i * 2 + 0 = 16 + 1 + i * 2 by omega, arrL_set2 (by omega), arrL_set (by omega), arrL_set (by omega)]


attribute [local irreducible] encM encP

def insertF (p : PG) (at_ nn : Nat) (x y : Int) : PG := (((shiftUp p at_ nn).s_ip at_ x).s_iv at_ y).s_n (nn + 1)
def removeF (p : PG) (at_ nn : Nat) : PG := (shiftDn p at_ nn).s_n (nn - 1)
def rankF (p : PG) (nn : Nat) (x : Int) : Nat := ((List.range nn).takeWhile (fun i => decide (p.ip i ≤ x))).length
theorem rankF_le (p : PG) (nn : Nat) (x : Int) : rankF p nn x ≤ nn := by
  unfold rankF
  exact Nat.le_trans (List.Sublist.length_le (List.takeWhile_sublist _)) (by simp)
theorem rank_eq (p : PG) (nn : Nat) (x : Int) (i : Nat) (h1 : i ≤ nn) (h2 : ∀ j, j < i → p.ip j ≤ x) (h3 : i < nn → ¬ p.ip i ≤ x) : rankF p nn x = i := by
  unfold rankF
  have e : List.range nn = List.range i ++ (List.range (nn - i)).map (· + i) := by
    apply List.ext_getElem?
    intro j
    by_cases c : j < i
    · rw [List.getElem?_append_left (by simpa using c), List.getElem?_range (by omega), List.getElem?_range c]
    · rw [List.getElem?_append_right (by simp; omega)]
      by_cases c2 : j < nn
      · rw [List.getElem?_range c2, List.getElem?_map, List.length_range, List.getElem?_range (by omega)]
        simp; omega
      · rw [List.getElem?_eq_none (by simp; omega), List.getElem?_eq_none (by simp; omega)]
  rw [e, List.takeWhile_append_of_pos (fun j hj => by simpa using h2 j (List.mem_range.1 hj))]
  rcases Nat.lt_or_ge i nn with c | c
  · obtain ⟨m, hm⟩ : ∃ m, nn - i = m + 1 := ⟨nn - i - 1, by omega⟩
    rw [hm, List.range_succ_eq_map, List.map_cons, List.takeWhile_cons_of_neg (by simpa using h3 c)]
    simp
  · rw [show nn - i = 0 by omega]; simp

set_option maxHeartbeats 1000000 in
theorem rank_spec (qb : Nat) (p : PG) (nn : Nat) (hn : p.n = nn) (h : nn ≤ 8) (x : Int) : Sp Tryz.prog 134 #[.pointer (some ⟨qb, 16, none⟩), .int .u64 x] [(qb, C (arrL 37 (encP p)) 177)] (fun v F' => v = .int .i64 (rankF p nn x : Int) ∧ F' = [(qb, C (arrL 37 (encP (p))) 177)]) := by
  refine f_enter (args := [.pointer (some ⟨qb, 16, none⟩), .int .u64 x]) Tryz.func134 rfl Tryz.ntmps134 rfl ?_
  intro w0 w a hpre hl hh
  simp only [slotsFrom, Nat.reduceAdd] at hl
  refine c_seq ?_
  refine c_region ?_
  refine wl (wl_val hl rfl trivial (r_assign hl rfl) ?_)
  clear hl a; intro a hl
  refine w_nil ?_
  have hl2 := hl.add (t := 0) (hl.add (t := 1) (hl.nil) rfl) rfl; clear hl; have hl := hl2; clear hl2
  refine then_normal ?_
  refine c_seq ?_
  refine c_region ?_
  refine wl (wl_val hl rfl trivial (r_assign hl rfl) ?_)
  clear hl a; intro a hl
  refine w_nil ?_
  have hl2 := hl.add (t := 0) (hl.add (t := 1) (hl.add (t := 5) (hl.nil) rfl) rfl) rfl; clear hl; have hl := hl2; clear hl2
  refine then_normal ?_
  refine c_seq ?_
  refine wp_block ?_
  obtain ⟨KS0, hKS0, hk⟩ := (hl.add (t := 0) (hl.add (t := 1) (hl.nil) rfl) rfl).name
  obtain ⟨HS0, hHS0, hh2⟩ := hh.name (keeps_nil)
  refine c_loop (α := Nat) (fun i => nn - i) (fun i a w => (i ≤ nn ∧ ∀ j, j < i → p.ip j ≤ x) ∧ Sl 26 ([(5, .int .i64 i)] ++ KS0) a ∧ Has _ w0 ([] ++ HS0) w) 0 ⟨⟨by omega, fun j hj => by omega⟩, hl.addE (t := 5) (hk) rfl (by first | rfl), hh2⟩ ?_
  clear hk hh2 hl hh a w
  intro i a w hI
  obtain ⟨⟨hi, hall⟩, hl, hh⟩ := hI
  subst hKS0; subst hHS0
  simp only [List.cons_append, List.nil_append, List.append_nil] at hl hh
  refine c_seq ?_
  refine c_seq ?_
  refine c_region ?_
  refine wl (wl_val hl rfl trivial (r_move hl rfl) ?_)
  clear hl a; intro a hl
  refine wl (wl_val hl rfl trivial (r_move hl rfl) ?_)
  clear hl a; intro a hl
  refine wl (wl_val hl rfl trivial (r_nilCheck hl rfl) ?_)
  clear hl a; intro a hl
  refine wl (wl_val hl rfl trivial (r_field hl rfl fld175_0) ?_)
  clear hl a; intro a hl
  refine wl (w_load hl hh rfl trivial one3 rfl (by repeat (first | exact find_head | apply find_tail)) (by exact ld_sn _) ?_)
  clear hl a; intro a hl
  try rw [hn] at hl
  refine wl (wl_val hl rfl trivial (r_lss hl rfl rfl) ?_)
  clear hl a; intro a hl
  refine wl (wl_val hl rfl trivial (r_move hl rfl) ?_)
  clear hl a; intro a hl
  refine sl_split (t := 12) hl rfl ?_ ?_
  · intro hg1; clear hl; intro hl
    try simp only [decide_eq_true_eq, decide_eq_false_iff_not, Bool.not_eq_true', Bool.not_eq_false', Bool.not_eq_true, Bool.not_eq_false, Bool.and_eq_true, Bool.or_eq_true, Bool.and_eq_false_iff, Bool.or_eq_false_iff, Bool.not_not, ne_eq, Int.not_lt, Int.not_le, Decidable.not_not, beq_iff_eq, bne_iff_ne] at hg1
    refine wl (wl_val hl rfl ⟨_, _, rfl, rfl, rfl⟩ (r_move hl rfl) ?_)
    clear hl a; intro a hl
    refine wl (wl_val hl rfl ⟨_, _, rfl, rfl, rfl⟩ (r_move hl rfl) ?_)
    clear hl a; intro a hl
    refine wl (wl_val hl rfl ⟨_, _, rfl, rfl, rfl⟩ (r_nilCheck hl rfl) ?_)
    clear hl a; intro a hl
    refine wl (wl_val hl rfl ⟨_, _, rfl, rfl, rfl⟩ (r_field hl rfl fld175_1) ?_)
    clear hl a; intro a hl
    refine wl (wl_val hl rfl ⟨_, _, rfl, rfl, rfl⟩ (r_indexA hl rfl rfl arr173 (by omega) (by omega) (by first | (simp only [Int.reduceToNat]; rfl) | exact toNat_add1 _ | exact toNat_add2 _ _ | exact toNat_emod _ _ | exact Int.toNat_natCast _ | rfl)) ?_)
    clear hl a; intro a hl
    refine wl (wl_val hl rfl ⟨_, _, rfl, rfl, rfl⟩ (r_field hl rfl fld172_0) ?_)
    clear hl a; intro a hl
    refine wl (w_load hl hh rfl ⟨_, _, rfl, rfl, rfl⟩ one37 rfl (by repeat (first | exact find_head | apply find_tail)) (by exact ld_sip _ _ (by omega)) ?_)
    clear hl a; intro a hl
    try rw [hn] at hl
    refine wl (wl_val hl rfl ⟨_, _, rfl, rfl, rfl⟩ (r_move hl rfl) ?_)
    clear hl a; intro a hl
    refine wl (wl_val hl rfl ⟨_, _, rfl, rfl, rfl⟩ (r_leq hl rfl rfl) ?_)
    clear hl a; intro a hl
    refine wl (wl_val hl rfl trivial (r_pickT hl rfl rfl) ?_)
    clear hl a; intro a hl
    refine w_nil ?_
    have hl2 := hl.add (t := 0) (hl.add (t := 1) (hl.add (t := 5) (hl.add (t := 22) (hl.nil) rfl) rfl) rfl) rfl; clear hl; have hl := hl2; clear hl2
    refine then_normal ?_
    refine c_cond hl rfl ?_ ?_
    · intro hc0
      try simp only [decide_eq_true_eq, decide_eq_false_iff_not, Bool.not_eq_true', Bool.not_eq_false', Bool.not_eq_true, Bool.not_eq_false, Bool.and_eq_true, Bool.or_eq_true, Bool.and_eq_false_iff, Bool.or_eq_false_iff, Bool.not_not, ne_eq, Int.not_lt, Int.not_le, Decidable.not_not, beq_iff_eq, bne_iff_ne] at hc0
      refine wp_skip ?_
      refine then_normal ?_
      refine wp_block ?_
      refine c_region ?_
      refine wl (wl_val hl rfl trivial (r_move hl rfl) ?_)
      clear hl a; intro a hl
      first | refine wl (wl_val hl rfl trivial (r_add hl rfl rfl (by simp only [Fits]; omega)) ?_) | refine wl (wl_val hl rfl trivial (r_addW hl rfl rfl) ?_)
      clear hl a; intro a hl
      refine wl (wl_val hl rfl trivial (r_assign hl rfl) ?_)
      clear hl a; intro a hl
      refine w_nil ?_
      have hl2 := hl.add (t := 0) (hl.add (t := 1) (hl.add (t := 5) (hl.nil) rfl) rfl) rfl; clear hl; have hl := hl2; clear hl2
      refine blk_normal ?_
      refine then_normal ?_
      refine ⟨i + 1, (by omega), ⟨by omega, fun j hj => by rcases Nat.lt_succ_iff_lt_or_eq.1 hj with q | q; exact hall j q; (subst q; assumption)⟩, hl.addE (t := 5) (hl.addE (t := 0) (hl.addE (t := 1) (hl.nil) rfl (by first | rfl | rfl)) rfl (by first | rfl | rfl)) rfl (by first | rfl | rfl), hh.keep (by repeat (first | exact keeps_nil | apply keeps_cons (by repeat (first | exact find_head | apply find_tail)) (by first  | rfl) | exact keeps_self | apply keeps_mv))⟩
    · intro hc0
      try simp only [decide_eq_true_eq, decide_eq_false_iff_not, Bool.not_eq_true', Bool.not_eq_false', Bool.not_eq_true, Bool.not_eq_false, Bool.and_eq_true, Bool.or_eq_true, Bool.and_eq_false_iff, Bool.or_eq_false_iff, Bool.not_not, ne_eq, Int.not_lt, Int.not_le, Decidable.not_not, beq_iff_eq, bne_iff_ne] at hc0
      refine wp_exit ?_
      refine then_exit ?_
      refine then_exit ?_
      refine blk_exit ?_
      refine then_normal ?_
      refine c_seq ?_
      refine c_region ?_
      refine wl (wl_val hl rfl trivial (r_move hl rfl) ?_)
      clear hl a; intro a hl
      refine wl (wl_val hl rfl trivial (r_assign hl rfl) ?_)
      clear hl a; intro a hl
      refine w_nil ?_
      have hl2 := hl.add (t := 4) (hl.nil) rfl; clear hl; have hl := hl2; clear hl2
      refine then_normal ?_
      refine wp_ret ?_
      refine f_ret1 (F' := [(qb, C (arrL 37 (encP (p))) 177)]) hl hh rfl rfl (by repeat (first | exact keeps_nil | apply keeps_cons (by repeat (first | exact find_head | apply find_tail)) (by first  | rfl) | exact keeps_self | apply keeps_mv)) ?_
      exact ⟨congrArg (fun z : Nat => Value.int .i64 (z : Int)) (rank_eq p nn x i hi hall (fun q => by first | omega | assumption)).symm, rfl⟩
  · intro hg1; clear hl; intro hl
    try simp only [decide_eq_true_eq, decide_eq_false_iff_not, Bool.not_eq_true', Bool.not_eq_false', Bool.not_eq_true, Bool.not_eq_false, Bool.and_eq_true, Bool.or_eq_true, Bool.and_eq_false_iff, Bool.or_eq_false_iff, Bool.not_not, ne_eq, Int.not_lt, Int.not_le, Decidable.not_not, beq_iff_eq, bne_iff_ne] at hg1
    refine wl (wl_skip hl rfl ⟨_, _, rfl, rfl, rfl⟩ ?_)
    clear hl a; intro a hl
    refine wl (wl_skip hl rfl ⟨_, _, rfl, rfl, rfl⟩ ?_)
    clear hl a; intro a hl
    refine wl (wl_skip hl rfl ⟨_, _, rfl, rfl, rfl⟩ ?_)
    clear hl a; intro a hl
    refine wl (wl_skip hl rfl ⟨_, _, rfl, rfl, rfl⟩ ?_)
    clear hl a; intro a hl
    refine wl (wl_skip hl rfl ⟨_, _, rfl, rfl, rfl⟩ ?_)
    clear hl a; intro a hl
    refine wl (wl_skip hl rfl ⟨_, _, rfl, rfl, rfl⟩ ?_)
    clear hl a; intro a hl
    refine wl (wl_skip hl rfl ⟨_, _, rfl, rfl, rfl⟩ ?_)
    clear hl a; intro a hl
    refine wl (wl_skip hl rfl ⟨_, _, rfl, rfl, rfl⟩ ?_)
    clear hl a; intro a hl
    refine wl (wl_skip hl rfl ⟨_, _, rfl, rfl, rfl⟩ ?_)
    clear hl a; intro a hl
    refine wl (wl_val hl rfl trivial (r_pickF hl rfl rfl) ?_)
    clear hl a; intro a hl
    refine w_nil ?_
    have hl2 := hl.add (t := 0) (hl.add (t := 1) (hl.add (t := 5) (hl.add (t := 22) (hl.nil) rfl) rfl) rfl) rfl; clear hl; have hl := hl2; clear hl2
    refine then_normal ?_
    refine c_condF hl rfl ?_
    refine wp_exit ?_
    refine then_exit ?_
    refine then_exit ?_
    refine blk_exit ?_
    refine then_normal ?_
    refine c_seq ?_
    refine c_region ?_
    refine wl (wl_val hl rfl trivial (r_move hl rfl) ?_)
    clear hl a; intro a hl
    refine wl (wl_val hl rfl trivial (r_assign hl rfl) ?_)
    clear hl a; intro a hl
    refine w_nil ?_
    have hl2 := hl.add (t := 4) (hl.nil) rfl; clear hl; have hl := hl2; clear hl2
    refine then_normal ?_
    refine wp_ret ?_
    refine f_ret1 (F' := [(qb, C (arrL 37 (encP (p))) 177)]) hl hh rfl rfl (by repeat (first | exact keeps_nil | apply keeps_cons (by repeat (first | exact find_head | apply find_tail)) (by first  | rfl) | exact keeps_self | apply keeps_mv)) ?_
    exact ⟨congrArg (fun z : Nat => Value.int .i64 (z : Int)) (rank_eq p nn x i hi hall (fun q => by first | omega | assumption)).symm, rfl⟩

set_option maxHeartbeats 1000000 in
theorem insert_spec (qb : Nat) (p : PG) (nn : Nat) (hn : p.n = nn) (at_ : Nat) (h : at_ ≤ nn ∧ nn < 8) (x y : Int) : Sp Tryz.prog 135 #[.pointer (some ⟨qb, 16, none⟩), .int .i64 at_, .agg ⟨[.int .u64 x, .int .u64 y]⟩] [(qb, C (arrL 37 (encP p)) 177)] (fun v F' => v = .tuple #[] ∧ F' = [(qb, C (arrL 37 (encP (insertF p at_ nn x y))) 177)]) := by
  refine f_enter (args := [.pointer (some ⟨qb, 16, none⟩), .int .i64 at_, .agg ⟨[.int .u64 x, .int .u64 y]⟩]) Tryz.func135 rfl Tryz.ntmps135 rfl ?_
  intro w0 w a hpre hl hh
  simp only [slotsFrom, Nat.reduceAdd] at hl
  refine c_seq ?_
  refine c_region ?_
  refine wl (w_box hl hh rfl trivial rfl rfl ?_)
  clear hl hh a w; intro k5 a w hl hh
  refine w_nil ?_
  have hl2 := hl.add (t := 0) (hl.add (t := 1) (hl.add (t := 5) (hl.nil) rfl) rfl) rfl; clear hl; have hl := hl2; clear hl2
  refine then_normal ?_
  refine c_seq ?_
  refine c_draw [(qb, C (arrL 37 (encP p)) 177)] [20] mixed hh ?_
  clear hh w; intro w hh
  have hM : Mem [(qb, C (arrL 37 (encP p)) 177)] w := (by repeat (first | exact Mem.nil | refine Mem.cons hh.mem (by repeat (first | exact find_head | apply find_tail)) ?_ | refine Mem.consR hh (by assumption) (by simp) ?_))
  refine d_take (i := 0) hl rfl (by kernel_rfl) (by kernel_rfl) (by kernel_rfl) (by kernel_rfl) (by kernel_rfl) rfl trivial (fun _ _ _ h => h) hM (fun w hC => r_move hl rfl) rfl ?_
  clear hl a; intro a hl
  refine d_take (i := 1) hl rfl (by kernel_rfl) (by kernel_rfl) (by kernel_rfl) (by kernel_rfl) (by kernel_rfl) rfl trivial (fun _ _ _ h => h) hM (fun w hC => r_nilCheck hl rfl) rfl ?_
  clear hl a; intro a hl
  refine d_take (i := 2) hl rfl (by kernel_rfl) (by kernel_rfl) (by kernel_rfl) (by kernel_rfl) (by kernel_rfl) rfl trivial (fun _ _ _ h => h) hM (fun w hC => r_field hl rfl fld175_1) rfl ?_
  clear hl a; intro a hl
  refine d_take (i := 3) hl rfl (by kernel_rfl) (by kernel_rfl) (by kernel_rfl) (by kernel_rfl) (by kernel_rfl) rfl trivial (fun _ _ _ h => h) hM (fun w hC => r_move hl rfl) rfl ?_
  clear hl a; intro a hl
  first | refine d_take (i := 4) hl rfl (by kernel_rfl) (by kernel_rfl) (by kernel_rfl) (by kernel_rfl) (by kernel_rfl) rfl trivial (fun _ _ _ h => h) hM (fun w hC => r_add hl rfl rfl (by simp only [Fits]; omega)) rfl ?_ | refine d_take (i := 4) hl rfl (by kernel_rfl) (by kernel_rfl) (by kernel_rfl) (by kernel_rfl) (by kernel_rfl) rfl trivial (fun _ _ _ h => h) hM (fun w hC => r_addW hl rfl rfl) rfl ?_
  clear hl a; intro a hl
  refine d_take (i := 5) hl rfl (by kernel_rfl) (by kernel_rfl) (by kernel_rfl) (by kernel_rfl) (by kernel_rfl) rfl trivial (fun _ _ _ h => h) hM (fun w hC => r_move hl rfl) rfl ?_
  clear hl a; intro a hl
  refine d_take (i := 6) hl rfl (by kernel_rfl) (by kernel_rfl) (by kernel_rfl) (by kernel_rfl) (by kernel_rfl) rfl trivial (fun _ _ _ h => h) hM (fun w hC => r_nilCheck hl rfl) rfl ?_
  clear hl a; intro a hl
  refine d_take (i := 7) hl rfl (by kernel_rfl) (by kernel_rfl) (by kernel_rfl) (by kernel_rfl) (by kernel_rfl) rfl trivial (fun _ _ _ h => h) hM (fun w hC => r_field hl rfl fld175_0) rfl ?_
  clear hl a; intro a hl
  refine d_take (i := 8) hl rfl (by kernel_rfl) (by kernel_rfl) (by kernel_rfl) (by kernel_rfl) (by kernel_rfl) rfl trivial (fun _ _ _ h => h) hM (fun w hC => r_loadC hl rfl one3 hC (by repeat (first | exact find_head | apply find_tail)) (by exact ld_sn _)) rfl ?_
  clear hl a; intro a hl
  first | rw [hn] at hl | rw [show (((shiftUp p at_ nn).s_ip at_ x).s_iv at_ y).n = nn from hn] at hl | skip
  first | refine d_take (i := 9) hl rfl (by kernel_rfl) (by kernel_rfl) (by kernel_rfl) (by kernel_rfl) (by kernel_rfl) rfl trivial (fun _ _ _ h => h) hM (fun w hC => r_add hl rfl rfl (by simp only [Fits]; omega)) rfl ?_ | refine d_take (i := 9) hl rfl (by kernel_rfl) (by kernel_rfl) (by kernel_rfl) (by kernel_rfl) (by kernel_rfl) rfl trivial (fun _ _ _ h => h) hM (fun w hC => r_addW hl rfl rfl) rfl ?_
  clear hl a; intro a hl
  refine d_take (i := 10) hl rfl (by kernel_rfl) (by kernel_rfl) (by kernel_rfl) (by kernel_rfl) (by kernel_rfl) rfl trivial (fun _ _ _ h => h) hM (fun w hC => r_sliceA11g hl rfl rfl rfl arr173 (by first | trivial | (simp; done) | (simp; omega) | omega) (by first | (simp only [Int.reduceToNat]; rfl) | exact toNat_add1 _ | exact toNat_add2 _ _ | exact toNat_emod _ _ | exact Int.toNat_natCast _ | rfl) (by first | (simp only [Int.reduceToNat]; rfl) | exact toNat_add1 _ | exact toNat_add2 _ _ | exact toNat_emod _ _ | exact Int.toNat_natCast _ | rfl)) rfl ?_
  clear hl a; intro a hl
  refine d_take (i := 11) hl rfl (by kernel_rfl) (by kernel_rfl) (by kernel_rfl) (by kernel_rfl) (by kernel_rfl) rfl trivial (fun _ _ _ h => h) hM (fun w hC => r_move hl rfl) rfl ?_
  clear hl a; intro a hl
  refine d_take (i := 12) hl rfl (by kernel_rfl) (by kernel_rfl) (by kernel_rfl) (by kernel_rfl) (by kernel_rfl) rfl trivial (fun _ _ _ h => h) hM (fun w hC => r_nilCheck hl rfl) rfl ?_
  clear hl a; intro a hl
  refine d_take (i := 13) hl rfl (by kernel_rfl) (by kernel_rfl) (by kernel_rfl) (by kernel_rfl) (by kernel_rfl) rfl trivial (fun _ _ _ h => h) hM (fun w hC => r_field hl rfl fld175_1) rfl ?_
  clear hl a; intro a hl
  refine d_take (i := 14) hl rfl (by kernel_rfl) (by kernel_rfl) (by kernel_rfl) (by kernel_rfl) (by kernel_rfl) rfl trivial (fun _ _ _ h => h) hM (fun w hC => r_move hl rfl) rfl ?_
  clear hl a; intro a hl
  refine d_take (i := 15) hl rfl (by kernel_rfl) (by kernel_rfl) (by kernel_rfl) (by kernel_rfl) (by kernel_rfl) rfl trivial (fun _ _ _ h => h) hM (fun w hC => r_move hl rfl) rfl ?_
  clear hl a; intro a hl
  refine d_take (i := 16) hl rfl (by kernel_rfl) (by kernel_rfl) (by kernel_rfl) (by kernel_rfl) (by kernel_rfl) rfl trivial (fun _ _ _ h => h) hM (fun w hC => r_nilCheck hl rfl) rfl ?_
  clear hl a; intro a hl
  refine d_take (i := 17) hl rfl (by kernel_rfl) (by kernel_rfl) (by kernel_rfl) (by kernel_rfl) (by kernel_rfl) rfl trivial (fun _ _ _ h => h) hM (fun w hC => r_field hl rfl fld175_0) rfl ?_
  clear hl a; intro a hl
  refine d_take (i := 18) hl rfl (by kernel_rfl) (by kernel_rfl) (by kernel_rfl) (by kernel_rfl) (by kernel_rfl) rfl trivial (fun _ _ _ h => h) hM (fun w hC => r_loadC hl rfl one3 hC (by repeat (first | exact find_head | apply find_tail)) (by exact ld_sn _)) rfl ?_
  clear hl a; intro a hl
  first | rw [hn] at hl | rw [show (((shiftUp p at_ nn).s_ip at_ x).s_iv at_ y).n = nn from hn] at hl | skip
  refine d_take (i := 19) hl rfl (by kernel_rfl) (by kernel_rfl) (by kernel_rfl) (by kernel_rfl) (by kernel_rfl) rfl trivial (fun _ _ _ h => h) hM (fun w hC => r_sliceA11g hl rfl rfl rfl arr173 (by first | trivial | (simp; done) | (simp; omega) | omega) (by first | (simp only [Int.reduceToNat]; rfl) | exact toNat_add1 _ | exact toNat_add2 _ _ | exact toNat_emod _ _ | exact Int.toNat_natCast _ | rfl) (by first | (simp only [Int.reduceToNat]; rfl) | exact toNat_add1 _ | exact toNat_add2 _ _ | exact toNat_emod _ _ | exact Int.toNat_natCast _ | rfl)) rfl ?_
  clear hl a; intro a hl
  refine d_one (i := 20) (by kernel_rfl) rfl ?_
  try clear hM
  refine id (w_copy hl hh rfl trivial slc230 rfl rfl (by repeat (first | exact find_head | apply find_tail)) (show Nat.min (nn - at_) (nn + 1 - (at_ + 1)) = nn - at_ from by rw [show nn + 1 - (at_ + 1) = nn - at_ by omega]; exact Nat.min_self _) (by rw [arrL_length]; split <;> omega) (by rw [arrL_length]; split <;> omega) (arrL_all (encP_one p)) (up_copy p at_ nn _ h rfl) ?_)
  clear hl hh a w; intro a w hl hh
  refine d_step (fun h => absurd h (by decide)) ?_
  refine d_done (by kernel_rfl) ?_
  try clear hM
  have hl2 := hl.add (t := 0) (hl.add (t := 1) (hl.add (t := 5) (hl.nil) rfl) rfl) rfl; clear hl; have hl := hl2; clear hl2
  refine then_normal ?_
  refine c_seq ?_
  refine c_draw [(k5, C [.int .u64 x, .int .u64 y] 172)] [5, 6] mixed hh ?_
  clear hh w; intro w hh
  have hM : Mem [(k5, C [.int .u64 x, .int .u64 y] 172)] w := (by repeat (first | exact Mem.nil | refine Mem.cons hh.mem (by repeat (first | exact find_head | apply find_tail)) ?_ | refine Mem.consR hh (by assumption) (by simp) ?_))
  refine d_take (i := 0) hl rfl (by kernel_rfl) (by kernel_rfl) (by kernel_rfl) (by kernel_rfl) (by kernel_rfl) rfl trivial (fun _ _ _ h => h) hM (fun w hC => r_move hl rfl) rfl ?_
  clear hl a; intro a hl
  refine d_take (i := 1) hl rfl (by kernel_rfl) (by kernel_rfl) (by kernel_rfl) (by kernel_rfl) (by kernel_rfl) rfl trivial (fun _ _ _ h => h) hM (fun w hC => r_move hl rfl) rfl ?_
  clear hl a; intro a hl
  refine d_take (i := 2) hl rfl (by kernel_rfl) (by kernel_rfl) (by kernel_rfl) (by kernel_rfl) (by kernel_rfl) rfl trivial (fun _ _ _ h => h) hM (fun w hC => r_loadCA hl rfl agg172 hC (by repeat (first | exact find_head | apply find_tail)) (by first | (simp only [List.getElem?_cons_zero, List.getElem?_cons_succ, Value.cells, List.take_zero, List.take_succ_cons, List.take_nil, List.drop_zero, List.drop_succ_cons, List.drop_nil, List.length_cons, List.length_nil, List.cons_append, List.nil_append, List.append_nil, Nat.zero_add, Nat.add_zero, Nat.reduceAdd, Nat.reduceBEq, Nat.reduceEqDiff, Nat.ble, BEq.rfl, Bool.and_true, Bool.and_self, cond_true, beq_self_eq_true]; rfl)) (by first | rfl | (simp; done))) rfl ?_
  clear hl a; intro a hl
  refine d_take (i := 3) hl rfl (by kernel_rfl) (by kernel_rfl) (by kernel_rfl) (by kernel_rfl) (by kernel_rfl) rfl trivial (fun _ _ _ h => h) hM (fun w hC => r_nilCheck hl rfl) rfl ?_
  clear hl a; intro a hl
  refine d_take (i := 4) hl rfl (by kernel_rfl) (by kernel_rfl) (by kernel_rfl) (by kernel_rfl) (by kernel_rfl) rfl trivial (fun _ _ _ h => h) hM (fun w hC => r_field hl rfl fld175_1) rfl ?_
  clear hl a; intro a hl
  refine d_takeL (i := 5) hl rfl (by kernel_rfl) (by kernel_rfl) (by kernel_rfl) (by kernel_rfl) (by kernel_rfl) rfl trivial (fun _ _ _ h => h) (fun w => r_indexA hl rfl rfl arr173 (by omega) (by omega) (by first | (simp only [Int.reduceToNat]; rfl) | exact toNat_add1 _ | exact toNat_add2 _ _ | exact toNat_emod _ _ | exact Int.toNat_natCast _ | rfl)) rfl ?_
  clear hl a; intro a hl
  refine d_one (i := 6) (by kernel_rfl) rfl ?_
  try clear hM
  refine id (w_storeA hl hh trivial agg172 rfl rfl (by repeat (first | exact find_head | apply find_tail)) (by first | rfl | (simp; done)) (by rw [arrL_length]; omega) (by first | rfl | (simp; done)) (by exact stA_item _ _ _ _ (by omega)) ?_)
  clear hh w; intro w hh
  refine d_step (fun h => absurd h (by decide)) ?_
  refine d_done (by kernel_rfl) ?_
  try clear hM
  have hl2 := hl.add (t := 0) (hl.nil) rfl; clear hl; have hl := hl2; clear hl2
  refine then_normal ?_
  refine c_region ?_
  refine wl (wl_val hl rfl trivial (r_move hl rfl) ?_)
  clear hl a; intro a hl
  refine wl (wl_val hl rfl trivial (r_nilCheck hl rfl) ?_)
  clear hl a; intro a hl
  refine wl (wl_val hl rfl trivial (r_field hl rfl fld175_0) ?_)
  clear hl a; intro a hl
  refine wl (w_load hl hh rfl trivial one3 rfl (by repeat (first | exact find_head | apply find_tail)) (by exact ld_sn _) ?_)
  clear hl a; intro a hl
  first | rw [hn] at hl | rw [show (((shiftUp p at_ nn).s_ip at_ x).s_iv at_ y).n = nn from hn] at hl | skip
  first | refine wl (wl_val hl rfl trivial (r_add hl rfl rfl (by simp only [Fits]; omega)) ?_) | refine wl (wl_val hl rfl trivial (r_addW hl rfl rfl) ?_)
  clear hl a; intro a hl
  refine wl (wl_val hl rfl trivial (r_nilCheck hl rfl) ?_)
  clear hl a; intro a hl
  refine wl (wl_val hl rfl trivial (r_field hl rfl fld175_0) ?_)
  clear hl a; intro a hl
  refine wl (w_store hl hh trivial one3 rfl rfl (by repeat (first | exact find_head | apply find_tail)) (by rw [arrL_length]; omega) (by first | rfl | assumption | (apply Row.one; assumption)) (by exact st_sn _ _) ?_)
  clear hh w; intro w hh
  refine w_nil ?_
  have hl2 := hl.nil; clear hl; have hl := hl2; clear hl2
  refine f_end0 (F' := [(qb, C (arrL 37 (encP (insertF p at_ nn x y))) 177)]) hl hh rfl (by repeat (first | exact keeps_nil | apply keeps_cons (by repeat (first | exact find_head | apply find_tail)) (by first  | rfl) | exact keeps_self | apply keeps_mv)) ?_
  exact ⟨rfl, rfl⟩

set_option maxHeartbeats 1000000 in
theorem remove_spec (qb : Nat) (p : PG) (nn : Nat) (hn : p.n = nn) (at_ : Nat) (h : at_ < nn ∧ nn ≤ 8) : Sp Tryz.prog 136 #[.pointer (some ⟨qb, 16, none⟩), .int .i64 at_] [(qb, C (arrL 37 (encP p)) 177)] (fun v F' => v = .agg ⟨[.int .u64 (p.ip at_), .int .u64 (p.iv at_)]⟩ ∧ F' = [(qb, C (arrL 37 (encP (removeF p at_ nn))) 177)]) := by
  refine f_enter (args := [.pointer (some ⟨qb, 16, none⟩), .int .i64 at_]) Tryz.func136 rfl Tryz.ntmps136 rfl ?_
  intro w0 w a hpre hl hh
  simp only [slotsFrom, Nat.reduceAdd] at hl
  refine c_seq ?_
  refine c_region ?_
  refine wl (w_alloc hl hh rfl trivial zero172 rfl ?_)
  clear hl hh a w; intro k4 a w hl hh
  refine w_nil ?_
  have hl2 := hl.add (t := 0) (hl.add (t := 1) (hl.add (t := 4) (hl.nil) rfl) rfl) rfl; clear hl; have hl := hl2; clear hl2
  refine then_normal ?_
  refine c_seq ?_
  refine c_region ?_
  refine wl (wl_val hl rfl trivial (r_move hl rfl) ?_)
  clear hl a; intro a hl
  refine wl (wl_val hl rfl trivial (r_move hl rfl) ?_)
  clear hl a; intro a hl
  refine wl (wl_val hl rfl trivial (r_nilCheck hl rfl) ?_)
  clear hl a; intro a hl
  refine wl (wl_val hl rfl trivial (r_field hl rfl fld175_1) ?_)
  clear hl a; intro a hl
  refine wl (wl_val hl rfl trivial (r_indexA hl rfl rfl arr173 (by omega) (by omega) (by first | (simp only [Int.reduceToNat]; rfl) | exact toNat_add1 _ | exact toNat_add2 _ _ | exact toNat_emod _ _ | exact Int.toNat_natCast _ | rfl)) ?_)
  clear hl a; intro a hl
  refine wl (w_loadA hl hh rfl trivial agg172 rfl (by repeat (first | exact find_head | apply find_tail)) (by exact ldA_item _ _ (by omega)) (by rfl) ?_)
  clear hl a; intro a hl
  first | rw [hn] at hl | rw [show (shiftDn p at_ nn).n = nn from hn] at hl | skip
  refine wl (w_alloc hl hh rfl trivial zero172 rfl ?_)
  clear hl hh a w; intro k5 a w hl hh
  refine wl (w_storeA hl hh trivial agg172 rfl rfl (by repeat (first | exact find_head | apply find_tail)) (by first | rfl | (simp; done)) (by first | (simp; done) | (simp; omega)) (by first | rfl | (simp; done)) (by first | (simp only [setL, List.getElem?_cons_zero, List.getElem?_cons_succ, Value.cells, List.take_zero, List.take_succ_cons, List.take_nil, List.drop_zero, List.drop_succ_cons, List.drop_nil, List.length_cons, List.length_nil, List.cons_append, List.nil_append, List.append_nil, Nat.zero_add, Nat.add_zero, Nat.reduceAdd, Nat.reduceBEq, Nat.reduceEqDiff, Nat.ble, BEq.rfl, Bool.and_true, Bool.and_self, cond_true, beq_self_eq_true]; rfl)) ?_)
  clear hh w; intro w hh
  refine w_nil ?_
  have hl2 := hl.add (t := 0) (hl.add (t := 1) (hl.add (t := 4) (hl.add (t := 5) (hl.nil) rfl) rfl) rfl) rfl; clear hl; have hl := hl2; clear hl2
  refine then_normal ?_
  refine c_seq ?_
  refine c_draw [(qb, C (arrL 37 (encP p)) 177)] [15] mixed hh ?_
  clear hh w; intro w hh
  have hM : Mem [(qb, C (arrL 37 (encP p)) 177)] w := (by repeat (first | exact Mem.nil | refine Mem.cons hh.mem (by repeat (first | exact find_head | apply find_tail)) ?_ | refine Mem.consR hh (by assumption) (by simp) ?_))
  refine d_take (i := 0) hl rfl (by kernel_rfl) (by kernel_rfl) (by kernel_rfl) (by kernel_rfl) (by kernel_rfl) rfl trivial (fun _ _ _ h => h) hM (fun w hC => r_move hl rfl) rfl ?_
  clear hl a; intro a hl
  refine d_take (i := 1) hl rfl (by kernel_rfl) (by kernel_rfl) (by kernel_rfl) (by kernel_rfl) (by kernel_rfl) rfl trivial (fun _ _ _ h => h) hM (fun w hC => r_nilCheck hl rfl) rfl ?_
  clear hl a; intro a hl
  refine d_take (i := 2) hl rfl (by kernel_rfl) (by kernel_rfl) (by kernel_rfl) (by kernel_rfl) (by kernel_rfl) rfl trivial (fun _ _ _ h => h) hM (fun w hC => r_field hl rfl fld175_1) rfl ?_
  clear hl a; intro a hl
  refine d_take (i := 3) hl rfl (by kernel_rfl) (by kernel_rfl) (by kernel_rfl) (by kernel_rfl) (by kernel_rfl) rfl trivial (fun _ _ _ h => h) hM (fun w hC => r_move hl rfl) rfl ?_
  clear hl a; intro a hl
  refine d_take (i := 4) hl rfl (by kernel_rfl) (by kernel_rfl) (by kernel_rfl) (by kernel_rfl) (by kernel_rfl) rfl trivial (fun _ _ _ h => h) hM (fun w hC => r_sliceA10g hl rfl rfl arr173 (by first | trivial | (simp; done) | (simp; omega) | omega) (by first | (simp only [Int.reduceToNat]; rfl) | exact toNat_add1 _ | exact toNat_add2 _ _ | exact toNat_emod _ _ | exact Int.toNat_natCast _ | rfl)) rfl ?_
  clear hl a; intro a hl
  refine d_take (i := 5) hl rfl (by kernel_rfl) (by kernel_rfl) (by kernel_rfl) (by kernel_rfl) (by kernel_rfl) rfl trivial (fun _ _ _ h => h) hM (fun w hC => r_move hl rfl) rfl ?_
  clear hl a; intro a hl
  refine d_take (i := 6) hl rfl (by kernel_rfl) (by kernel_rfl) (by kernel_rfl) (by kernel_rfl) (by kernel_rfl) rfl trivial (fun _ _ _ h => h) hM (fun w hC => r_nilCheck hl rfl) rfl ?_
  clear hl a; intro a hl
  refine d_take (i := 7) hl rfl (by kernel_rfl) (by kernel_rfl) (by kernel_rfl) (by kernel_rfl) (by kernel_rfl) rfl trivial (fun _ _ _ h => h) hM (fun w hC => r_field hl rfl fld175_1) rfl ?_
  clear hl a; intro a hl
  refine d_take (i := 8) hl rfl (by kernel_rfl) (by kernel_rfl) (by kernel_rfl) (by kernel_rfl) (by kernel_rfl) rfl trivial (fun _ _ _ h => h) hM (fun w hC => r_move hl rfl) rfl ?_
  clear hl a; intro a hl
  first | refine d_take (i := 9) hl rfl (by kernel_rfl) (by kernel_rfl) (by kernel_rfl) (by kernel_rfl) (by kernel_rfl) rfl trivial (fun _ _ _ h => h) hM (fun w hC => r_add hl rfl rfl (by simp only [Fits]; omega)) rfl ?_ | refine d_take (i := 9) hl rfl (by kernel_rfl) (by kernel_rfl) (by kernel_rfl) (by kernel_rfl) (by kernel_rfl) rfl trivial (fun _ _ _ h => h) hM (fun w hC => r_addW hl rfl rfl) rfl ?_
  clear hl a; intro a hl
  refine d_take (i := 10) hl rfl (by kernel_rfl) (by kernel_rfl) (by kernel_rfl) (by kernel_rfl) (by kernel_rfl) rfl trivial (fun _ _ _ h => h) hM (fun w hC => r_move hl rfl) rfl ?_
  clear hl a; intro a hl
  refine d_take (i := 11) hl rfl (by kernel_rfl) (by kernel_rfl) (by kernel_rfl) (by kernel_rfl) (by kernel_rfl) rfl trivial (fun _ _ _ h => h) hM (fun w hC => r_nilCheck hl rfl) rfl ?_
  clear hl a; intro a hl
  refine d_take (i := 12) hl rfl (by kernel_rfl) (by kernel_rfl) (by kernel_rfl) (by kernel_rfl) (by kernel_rfl) rfl trivial (fun _ _ _ h => h) hM (fun w hC => r_field hl rfl fld175_0) rfl ?_
  clear hl a; intro a hl
  refine d_take (i := 13) hl rfl (by kernel_rfl) (by kernel_rfl) (by kernel_rfl) (by kernel_rfl) (by kernel_rfl) rfl trivial (fun _ _ _ h => h) hM (fun w hC => r_loadC hl rfl one3 hC (by repeat (first | exact find_head | apply find_tail)) (by exact ld_sn _)) rfl ?_
  clear hl a; intro a hl
  first | rw [hn] at hl | rw [show (shiftDn p at_ nn).n = nn from hn] at hl | skip
  refine d_take (i := 14) hl rfl (by kernel_rfl) (by kernel_rfl) (by kernel_rfl) (by kernel_rfl) (by kernel_rfl) rfl trivial (fun _ _ _ h => h) hM (fun w hC => r_sliceA11g hl rfl rfl rfl arr173 (by first | trivial | (simp; done) | (simp; omega) | omega) (by first | (simp only [Int.reduceToNat]; rfl) | exact toNat_add1 _ | exact toNat_add2 _ _ | exact toNat_emod _ _ | exact Int.toNat_natCast _ | rfl) (by first | (simp only [Int.reduceToNat]; rfl) | exact toNat_add1 _ | exact toNat_add2 _ _ | exact toNat_emod _ _ | exact Int.toNat_natCast _ | rfl)) rfl ?_
  clear hl a; intro a hl
  refine d_one (i := 15) (by kernel_rfl) rfl ?_
  try clear hM
  refine id (w_copy hl hh rfl trivial slc230 rfl rfl (by repeat (first | exact find_head | apply find_tail)) (show Nat.min (nn - (at_ + 1)) (8 - at_) = nn - (at_ + 1) from Nat.min_eq_left (by omega)) (by rw [arrL_length]; split <;> omega) (by rw [arrL_length]; split <;> omega) (arrL_all (encP_one p)) (dn_copy p at_ nn _ h rfl) ?_)
  clear hl hh a w; intro a w hl hh
  refine d_step (fun h => absurd h (by decide)) ?_
  refine d_done (by kernel_rfl) ?_
  try clear hM
  have hl2 := hl.add (t := 0) (hl.add (t := 4) (hl.add (t := 5) (hl.nil) rfl) rfl) rfl; clear hl; have hl := hl2; clear hl2
  refine then_normal ?_
  refine c_seq ?_
  refine c_region ?_
  refine wl (wl_val hl rfl trivial (r_move hl rfl) ?_)
  clear hl a; intro a hl
  refine wl (wl_val hl rfl trivial (r_nilCheck hl rfl) ?_)
  clear hl a; intro a hl
  refine wl (wl_val hl rfl trivial (r_field hl rfl fld175_0) ?_)
  clear hl a; intro a hl
  refine wl (w_load hl hh rfl trivial one3 rfl (by repeat (first | exact find_head | apply find_tail)) (by exact ld_sn _) ?_)
  clear hl a; intro a hl
  first | rw [hn] at hl | rw [show (shiftDn p at_ nn).n = nn from hn] at hl | skip
  first | refine wl (wl_val hl rfl trivial (r_sub hl rfl rfl (by simp only [Fits]; omega)) ?_) | refine wl (wl_val hl rfl trivial (r_subW hl rfl rfl) ?_)
  clear hl a; intro a hl
  refine wl (wl_val hl rfl trivial (r_nilCheck hl rfl) ?_)
  clear hl a; intro a hl
  refine wl (wl_val hl rfl trivial (r_field hl rfl fld175_0) ?_)
  clear hl a; intro a hl
  refine wl (w_store hl hh trivial one3 rfl rfl (by repeat (first | exact find_head | apply find_tail)) (by rw [arrL_length]; omega) (by first | rfl | assumption | (apply Row.one; assumption)) (by exact st_sn _ _) ?_)
  clear hh w; intro w hh
  refine w_nil ?_
  have hl2 := hl.add (t := 4) (hl.add (t := 5) (hl.nil) rfl) rfl; clear hl; have hl := hl2; clear hl2
  refine then_normal ?_
  refine c_seq ?_
  refine c_region ?_
  refine wl (w_loadA hl hh rfl trivial agg172 rfl (by repeat (first | exact find_head | apply find_tail)) (by first | (simp only [List.getElem?_cons_zero, List.getElem?_cons_succ, Value.cells, List.take_zero, List.take_succ_cons, List.take_nil, List.drop_zero, List.drop_succ_cons, List.drop_nil, List.length_cons, List.length_nil, List.cons_append, List.nil_append, List.append_nil, Nat.zero_add, Nat.add_zero, Nat.reduceAdd, Nat.reduceBEq, Nat.reduceEqDiff, Nat.ble, BEq.rfl, Bool.and_true, Bool.and_self, cond_true, beq_self_eq_true]; rfl)) (by first | rfl | (simp; done)) ?_)
  clear hl a; intro a hl
  refine wl (w_storeA hl hh trivial agg172 rfl rfl (by repeat (first | exact find_head | apply find_tail)) (by first | rfl | (simp; done)) (by first | (simp; done) | (simp; omega)) (by first | rfl | (simp; done)) (by first | (simp only [setL, List.getElem?_cons_zero, List.getElem?_cons_succ, Value.cells, List.take_zero, List.take_succ_cons, List.take_nil, List.drop_zero, List.drop_succ_cons, List.drop_nil, List.length_cons, List.length_nil, List.cons_append, List.nil_append, List.append_nil, Nat.zero_add, Nat.add_zero, Nat.reduceAdd, Nat.reduceBEq, Nat.reduceEqDiff, Nat.ble, BEq.rfl, Bool.and_true, Bool.and_self, cond_true, beq_self_eq_true]; rfl)) ?_)
  clear hh w; intro w hh
  refine w_nil ?_
  have hl2 := hl.add (t := 4) (hl.nil) rfl; clear hl; have hl := hl2; clear hl2
  refine then_normal ?_
  refine wp_ret ?_
  refine f_retC (F' := [(qb, C (arrL 37 (encP (removeF p at_ nn))) 177)]) hl hh rfl rfl agg172 (by repeat (first | exact find_head | apply find_tail)) (by first | rfl | (simp; done)) (by repeat (first | exact keeps_nil | apply keeps_cons (by repeat (first | exact find_head | apply find_tail)) (by first  | exact congrArg (fun q => C (arrL 37 (encP q)) 177) (congrArg (PG.s_n (shiftDn p at_ nn)) (by omega)) | rfl) | exact keeps_self | apply keeps_mv)) ?_
  exact ⟨rfl, rfl⟩
end Go.Proofs.Qxb6500914aGreat

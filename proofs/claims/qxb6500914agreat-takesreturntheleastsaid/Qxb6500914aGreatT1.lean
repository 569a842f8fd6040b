import Derived.Test.Qxb6500914aGreatT0
namespace Go.Proofs.Qxb6500914aGreat
open Go.Eng
set_option linter.unusedVariables false
set_option linter.unusedSimpArgs false
theorem zero207 : zeroOk Tryz.prog 207 (.agg #[(.pointer none), (.bool false)]) := by unfold zeroOk; kernel_rfl
theorem bld207 : buildOk Tryz.prog 207 [(0, 1), (1, 1)] = true := by kernel_rfl
theorem agg207 : aggOk Tryz.prog 207 2 = true := by kernel_rfl
theorem cal122 : callable Tryz.prog 122 = true := by kernel_rfl
attribute [local irreducible] encM encP

structure SR where
  m : MS
  p : PG
  ret : Bool
def ARp (r : AR) : PG := r.p.setResp r.ra r.rv r.rp
/-- one step of an operation -/
def stepF (k : Bool) (m : MS) (p : PG) : SR :=
  if p.pc = 0 then ⟨beginF m 1 (hd k + 1 + p.self.toNat), (p.s_sp (m.word (hd k + 1 + p.self.toNat))).s_pc 1, false⟩
  else if p.pc = 1 then ⟨beginF m 1 (hd k), (p.s_root (m.word (hd k))).s_pc 2, false⟩
  else if p.pc = 2 then (if 8 < m.word (nd k (p.root.toNat % 256)) then ⟨beginF m 1 (nd k (p.root.toNat % 256)), p.s_pc 1, false⟩ else ⟨beginF m 1 (nd k (p.root.toNat % 256)), throughF (p.s_n (m.word (nd k (p.root.toNat % 256)))) 3 4, false⟩)
  else if p.pc = 3 then ⟨beginF m 1 (nd k (p.root.toNat % 256) + 1 + p.at_.toNat), walkedF (setCell k p p.at_.toNat (m.word (nd k (p.root.toNat % 256) + 1 + p.at_.toNat))) 4, false⟩
  else if p.pc = 4 then (if m.word (hd k) ≠ p.root then ⟨beginF m 1 (hd k), (p.s_root (m.word (hd k))).s_pc 2, false⟩
    else if (applyF p p.n.toNat p.ck p.cv p.cp).ch = true then ⟨beginF m 1 (hd k), (ARp (applyF p p.n.toNat p.ck p.cv p.cp)).s_pc 5, false⟩ else ⟨beginF m 1 (hd k), ARp (applyF p p.n.toNat p.ck p.cv p.cp), true⟩)
  else if p.pc = 5 then ⟨putF (beginF m 2 (nd k p.sp.toNat)) p.n (nd k p.sp.toNat), throughF p 6 7, false⟩
  else if p.pc = 6 then ⟨putF (beginF m 2 (nd k p.sp.toNat + 1 + p.at_.toNat)) (cellV k p p.at_.toNat) (nd k p.sp.toNat + 1 + p.at_.toNat), walkedF p 7, false⟩
  else if p.pc = 7 then (if m.word (hd k) = p.root then ⟨casF m (hd k) p.root (succF p.root.toNat p.sp.toNat), p.s_pc 8, false⟩ else ⟨casF m (hd k) p.root (succF p.root.toNat p.sp.toNat), (p.s_root (m.word (hd k))).s_pc 2, false⟩)
  else ⟨putF (beginF m 2 (hd k + 1 + p.self.toNat)) ((p.root.toNat % 256 : Nat) : Int) (hd k + 1 + p.self.toNat), p, true⟩
/-- the frame of thread t at work on the box k -/
structure PI (k : Bool) (t : Nat) (p : PG) : Prop where
  box : OfBox k p
  self : p.self = t
  ht : t < 6
  pc : 0 ≤ p.pc ∧ p.pc ≤ 8
  sp : 1 ≤ p.pc → ∃ s : Nat, p.sp = s ∧ s < 7
  root : 2 ≤ p.pc → ∃ r : Nat, p.root = r ∧ r < 18446744073709551616 ∧ r % 256 < 7
  n : 3 ≤ p.pc → ∃ nn : Nat, p.n = nn ∧ nn ≤ 8
  at_ : p.pc = 3 ∨ p.pc = 6 → ∃ j nn : Nat, p.at_ = j ∧ p.n = nn ∧ nn ≤ 8 ∧ j < nn * wd k
/-- the words that lead the way -/
structure MI (m : MS) : Prop where
  cnt : ∀ k i, i < 7 → ∃ c : Nat, m.word (nd k i) = c ∧ c ≤ 8
  root : ∀ k, ∃ r : Nat, m.word (hd k) = r ∧ r < 18446744073709551616 ∧ r % 256 < 7
  spare : ∀ k t, t < 6 → ∃ s : Nat, m.word (hd k + 1 + t) = s ∧ s < 7
theorem step_spec (qb ob b : Nat) (k : Bool) (t : Nat) (m : MS) (p : PG) (hI : PI k t p) (hM : MI m) : Sp Tryz.prog 122 #[.pointer (some ⟨qb, 0, none⟩), .pointer (some ⟨ob, 0, none⟩)] [(qb, C (arrL 37 (encP p)) 177), (ob, C [.pointer (some ⟨b, 0, none⟩), .bool false] 207), (b, C (arrL 16391 (encM m)) 116)] (fun v F' => v = .bool (stepF k m p).ret ∧ F' = [(qb, C (arrL 37 (encP (stepF k m p).p)) 177), (ob, C [.pointer (some ⟨b, 0, none⟩), .bool false] 207), (b, C (arrL 16391 (encM (stepF k m p).m)) 116)]) := by
  have hpc := hI.pc
  obtain ⟨hB, hself, ht⟩ := And.intro hI.box (And.intro hI.self hI.ht)
  have hself' : p.self.toNat = t := by omega
  rcases (show p.pc = 0 ∨ p.pc = 1 ∨ p.pc = 2 ∨ p.pc = 3 ∨ p.pc = 4 ∨ p.pc = 5 ∨ p.pc = 6 ∨ p.pc = 7 ∨ p.pc = 8 by omega) with e | e | e | e | e | e | e | e | e
  · obtain ⟨s, hs, hs7⟩ := hM.spare k t ht
    have hF : stepF k m p = ⟨beginF m 1 (hd k + 1 + t), (p.s_sp s).s_pc 1, false⟩ := by unfold stepF; rw [if_pos e, hself', hs]
    rw [hF]
    exact step0 qb ob b k m p hB e t hself ht s hs hs7
  · have hF : stepF k m p = ⟨beginF m 1 (hd k), (p.s_root (m.word (hd k))).s_pc 2, false⟩ := by unfold stepF; rw [if_neg (by omega), if_pos e]
    rw [hF]
    exact step1 qb ob b k m p hB e _ rfl
  · obtain ⟨r, hr, hr1, hr2⟩ := hI.root (by omega)
    have hr' : p.root.toNat = r := by omega
    obtain ⟨c, hc, _⟩ := hM.cnt k (r % 256) hr2
    by_cases h8 : 8 < m.word (nd k (r % 256))
    · have hF : stepF k m p = ⟨beginF m 1 (nd k (r % 256)), p.s_pc 1, false⟩ := by unfold stepF; rw [if_neg (by omega), if_neg (by omega), if_pos e, hr', if_pos h8]
      rw [hF]
      exact step2a qb ob b k m p hB e r hr hr1 hr2 _ rfl h8
    · have hF : stepF k m p = ⟨beginF m 1 (nd k (r % 256)), throughF (p.s_n c) 3 4, false⟩ := by unfold stepF; rw [if_neg (by omega), if_neg (by omega), if_pos e, hr', if_neg h8, hc]
      rw [hF]
      exact step2b qb ob b k m p hB e r hr hr1 hr2 c hc (by omega)
  · obtain ⟨r, hr, hr1, hr2⟩ := hI.root (by omega)
    obtain ⟨j, nn, hj, hn, hn8, hjn⟩ := hI.at_ (.inl e)
    have hr' : p.root.toNat = r := by omega
    have hj' : p.at_.toNat = j := by omega
    have hF : stepF k m p = ⟨beginF m 1 (nd k (r % 256) + 1 + j), walkedF (setCell k p j (m.word (nd k (r % 256) + 1 + j))) 4, false⟩ := by unfold stepF; rw [if_neg (by omega), if_neg (by omega), if_neg (by omega), if_pos e, hr', hj']
    rw [hF]
    exact step3 qb ob b k m p hB e r hr hr1 hr2 j nn hj hn hn8 hjn
  · obtain ⟨nn, hn, hn8⟩ := hI.n (by omega)
    have hn' : p.n.toNat = nn := by omega
    by_cases hw : m.word (hd k) = p.root
    · by_cases hc : (applyF p nn p.ck p.cv p.cp).ch = true
      · have hF : stepF k m p = ⟨beginF m 1 (hd k), (ARp (applyF p nn p.ck p.cv p.cp)).s_pc 5, false⟩ := by unfold stepF; rw [if_neg (by omega), if_neg (by omega), if_neg (by omega), if_neg (by omega), if_pos e, if_neg (not_not_intro hw), hn', if_pos hc]
        rw [hF]
        exact step4c qb ob b k m p hB e nn hn hn8 hw hc
      · have hF : stepF k m p = ⟨beginF m 1 (hd k), ARp (applyF p nn p.ck p.cv p.cp), true⟩ := by unfold stepF; rw [if_neg (by omega), if_neg (by omega), if_neg (by omega), if_neg (by omega), if_pos e, if_neg (not_not_intro hw), hn', if_neg hc]
        rw [hF]
        exact step4b qb ob b k m p hB e nn hn hn8 hw (by simpa using hc)
    · have hF : stepF k m p = ⟨beginF m 1 (hd k), (p.s_root (m.word (hd k))).s_pc 2, false⟩ := by unfold stepF; rw [if_neg (by omega), if_neg (by omega), if_neg (by omega), if_neg (by omega), if_pos e, if_pos hw]
      rw [hF]
      exact step4a qb ob b k m p hB e _ rfl hw
  · obtain ⟨s, hs, hs7⟩ := hI.sp (by omega)
    obtain ⟨nn, hn, hn8⟩ := hI.n (by omega)
    have hs' : p.sp.toNat = s := by omega
    have hF : stepF k m p = ⟨putF (beginF m 2 (nd k s)) nn (nd k s), throughF p 6 7, false⟩ := by unfold stepF; rw [if_neg (by omega), if_neg (by omega), if_neg (by omega), if_neg (by omega), if_neg (by omega), if_pos e, hs', hn]
    rw [hF]
    exact step5 qb ob b k m p hB e s hs hs7 nn hn hn8
  · obtain ⟨s, hs, hs7⟩ := hI.sp (by omega)
    obtain ⟨j, nn, hj, hn, hn8, hjn⟩ := hI.at_ (.inr e)
    have hs' : p.sp.toNat = s := by omega
    have hj' : p.at_.toNat = j := by omega
    have hF : stepF k m p = ⟨putF (beginF m 2 (nd k s + 1 + j)) (cellV k p j) (nd k s + 1 + j), walkedF p 7, false⟩ := by unfold stepF; rw [if_neg (by omega), if_neg (by omega), if_neg (by omega), if_neg (by omega), if_neg (by omega), if_neg (by omega), if_pos e, hs', hj']
    rw [hF]
    exact step6 qb ob b k m p hB e s hs hs7 j nn hj hn hn8 hjn
  · obtain ⟨s, hs, hs7⟩ := hI.sp (by omega)
    obtain ⟨r, hr, hr1, hr2⟩ := hI.root (by omega)
    have hs' : p.sp.toNat = s := by omega
    have hr' : p.root.toNat = r := by omega
    by_cases hw : m.word (hd k) = p.root
    · have hF : stepF k m p = ⟨casF m (hd k) r (succF r s), p.s_pc 8, false⟩ := by unfold stepF; rw [if_neg (by omega), if_neg (by omega), if_neg (by omega), if_neg (by omega), if_neg (by omega), if_neg (by omega), if_neg (by omega), if_pos e, if_pos hw, hs', hr', hr]
      rw [hF]
      exact step7a qb ob b k m p hB e r hr hr1 hr2 s hs hs7 (hw.trans hr)
    · have hF : stepF k m p = ⟨casF m (hd k) r (succF r s), (p.s_root (m.word (hd k))).s_pc 2, false⟩ := by unfold stepF; rw [if_neg (by omega), if_neg (by omega), if_neg (by omega), if_neg (by omega), if_neg (by omega), if_neg (by omega), if_neg (by omega), if_pos e, if_neg hw, hs', hr', hr]
      rw [hF]
      exact step7b qb ob b k m p hB e r hr hr1 hr2 s hs hs7 (fun q => hw (q.trans hr.symm))
  · obtain ⟨r, hr, hr1, hr2⟩ := hI.root (by omega)
    have hr' : p.root.toNat = r := by omega
    have hF : stepF k m p = ⟨putF (beginF m 2 (hd k + 1 + t)) ((r % 256 : Nat) : Int) (hd k + 1 + t), p, true⟩ := by unfold stepF; rw [if_neg (by omega), if_neg (by omega), if_neg (by omega), if_neg (by omega), if_neg (by omega), if_neg (by omega), if_neg (by omega), if_neg (by omega), hself', hr']
    rw [hF]
    exact step8 qb ob b k m p hB e r hr hr1 hr2 t hself ht

set_option maxHeartbeats 1000000 in
theorem progStep_spec (qb b : Nat) (k : Bool) (t : Nat) (m : MS) (p : PG) (hI : PI k t p) (hM : MI m) : Sp Tryz.prog 120 #[.pointer (some ⟨qb, 0, none⟩), .pointer (some ⟨b, 0, none⟩)] [(qb, C (arrL 37 (encP p)) 177), (b, C (arrL 16391 (encM m)) 116)] (fun v F' => (v = .tuple #[.agg ⟨[.int .u8 (if (stepF k m p).ret then (stepF k m p).p.ra else 0), .int .u64 (if (stepF k m p).ret then (stepF k m p).p.rv else 0), .int .u64 (if (stepF k m p).ret then (stepF k m p).p.rp else 0)]⟩, .bool (stepF k m p).ret]) ∧ F' = [(qb, C (arrL 37 (encP (stepF k m p).p)) 177), (b, C (arrL 16391 (encM (stepF k m p).m)) 116)]) := by
  refine f_enter (args := [.pointer (some ⟨qb, 0, none⟩), .pointer (some ⟨b, 0, none⟩)]) Tryz.func120 rfl Tryz.ntmps120 rfl ?_
  intro w0 w a hpre hl hh
  simp only [slotsFrom, Nat.reduceAdd] at hl
  refine c_seq ?_
  refine c_region ?_
  refine wl (w_alloc hl hh rfl trivial zero39 rfl ?_)
  clear hl hh a w; intro k4 a w hl hh
  refine wl (wl_val hl rfl trivial (r_assign hl rfl) ?_)
  clear hl a; intro a hl
  refine w_nil ?_
  have hl2 := hl.add (t := 0) (hl.add (t := 1) (hl.add (t := 4) (hl.nil) rfl) rfl) rfl; clear hl; have hl := hl2; clear hl2
  refine then_normal ?_
  refine c_seq ?_
  refine c_region ?_
  refine wl (wl_val hl rfl trivial (r_move hl rfl) ?_)
  clear hl a; intro a hl
  refine wl (wl_val hl rfl trivial (r_build hl rfl zero207 bld207 (by simp only [fillL, setL, List.getElem?_cons_zero, List.getElem?_cons_succ, Value.cells, List.take_zero, List.take_succ_cons, List.take_nil, List.drop_zero, List.drop_succ_cons, List.drop_nil, List.length_cons, List.length_nil, List.cons_append, List.nil_append, List.append_nil, Nat.zero_add, Nat.add_zero, Nat.reduceAdd, Nat.reduceBEq, Nat.reduceEqDiff, Nat.ble, BEq.rfl, Bool.and_true, Bool.and_self, cond_true, beq_self_eq_true]; rfl)) ?_)
  clear hl a; intro a hl
  refine wl (w_alloc hl hh rfl trivial zero207 rfl ?_)
  clear hl hh a w; intro k6 a w hl hh
  refine wl (w_storeA hl hh trivial agg207 rfl rfl (by repeat (first | exact find_head | apply find_tail)) (by first | rfl | (simp; done) | exact respP _) (by first | (simp; done) | (simp; omega)) (by first | rfl | (simp; done)) (by first | (simp only [setL, List.getElem?_cons_zero, List.getElem?_cons_succ, Value.cells, List.take_zero, List.take_succ_cons, List.take_nil, List.drop_zero, List.drop_succ_cons, List.drop_nil, List.length_cons, List.length_nil, List.cons_append, List.nil_append, List.append_nil, Nat.zero_add, Nat.add_zero, Nat.reduceAdd, Nat.reduceBEq, Nat.reduceEqDiff, Nat.ble, BEq.rfl, Bool.and_true, Bool.and_self, cond_true, beq_self_eq_true]; rfl)) ?_)
  clear hh w; intro w hh
  refine w_nil ?_
  have hl2 := hl.add (t := 0) (hl.add (t := 4) (hl.add (t := 6) (hl.nil) rfl) rfl) rfl; clear hl; have hl := hl2; clear hl2
  refine then_normal ?_
  refine c_seq ?_
  refine c_region ?_
  refine wl (wl_val hl rfl trivial (r_move hl rfl) ?_)
  clear hl a; intro a hl
  refine wl (w_call hl hh rfl trivial rfl cal122 rfl (step_spec qb k6 b k t m p hI hM) (by repeat (first | exact keeps_nil | apply keeps_cons (by repeat (first | exact find_head | apply find_tail)) (by first  | rfl) | exact keeps_self | apply keeps_mv)) trivial ?_)
  clear hl hh a w; intro vc Fc a w hR hl hh
  obtain ⟨rfl, rfl⟩ := hR
  try simp only [List.cons_append, List.nil_append] at hh
  refine wl (wl_val hl rfl trivial (r_assign hl rfl) ?_)
  clear hl a; intro a hl
  refine w_nil ?_
  have hl2 := hl.add (t := 0) (hl.add (t := 4) (hl.add (t := 6) (hl.add (t := 7) (hl.nil) rfl) rfl) rfl) rfl; clear hl; have hl := hl2; clear hl2
  refine then_normal ?_
  refine c_seq ?_
  refine c_seq ?_
  refine c_region ?_
  refine wl (wl_val hl rfl trivial (r_field hl rfl fld207_1) ?_)
  clear hl a; intro a hl
  refine wl (w_load hl hh rfl trivial one4 rfl (by repeat (first | exact find_head | apply find_tail)) (by first | rfl) ?_)
  clear hl a; intro a hl
  refine w_nil ?_
  have hl2 := hl.add (t := 0) (hl.add (t := 4) (hl.add (t := 7) (hl.add (t := 13) (hl.nil) rfl) rfl) rfl) rfl; clear hl; have hl := hl2; clear hl2
  refine then_normal ?_
  refine c_cond hl rfl ?_ ?_
  · intro hc0
    try simp only [decide_eq_true_eq, decide_eq_false_iff_not, Bool.not_eq_true', Bool.not_eq_false', Bool.not_eq_true, Bool.not_eq_false, Bool.and_eq_true, Bool.or_eq_true, Bool.and_eq_false_iff, Bool.or_eq_false_iff, Bool.not_not, ne_eq, Int.not_lt, Int.not_le, Decidable.not_not, beq_iff_eq, bne_iff_ne] at hc0
    cases hc0
  · intro hc0
    try simp only [decide_eq_true_eq, decide_eq_false_iff_not, Bool.not_eq_true', Bool.not_eq_false', Bool.not_eq_true, Bool.not_eq_false, Bool.and_eq_true, Bool.or_eq_true, Bool.and_eq_false_iff, Bool.or_eq_false_iff, Bool.not_not, ne_eq, Int.not_lt, Int.not_le, Decidable.not_not, beq_iff_eq, bne_iff_ne] at hc0
    refine wp_skip ?_
    refine then_normal ?_
    refine c_seq ?_
    refine c_seq ?_
    refine c_region ?_
    refine wl (wl_val hl rfl trivial (r_move hl rfl) ?_)
    clear hl a; intro a hl
    refine wl (wl_val hl rfl trivial (r_not hl rfl) ?_)
    clear hl a; intro a hl
    refine w_nil ?_
    have hl2 := hl.add (t := 0) (hl.add (t := 4) (hl.add (t := 16) (hl.nil) rfl) rfl) rfl; clear hl; have hl := hl2; clear hl2
    refine then_normal ?_
    refine c_cond hl rfl ?_ ?_
    · intro hc1
      try simp only [decide_eq_true_eq, decide_eq_false_iff_not, Bool.not_eq_true', Bool.not_eq_false', Bool.not_eq_true, Bool.not_eq_false, Bool.and_eq_true, Bool.or_eq_true, Bool.and_eq_false_iff, Bool.or_eq_false_iff, Bool.not_not, ne_eq, Int.not_lt, Int.not_le, Decidable.not_not, beq_iff_eq, bne_iff_ne] at hc1
      refine c_seq ?_
      refine c_region ?_
      refine wl (wl_val hl rfl trivial (r_build hl rfl zero39 bld39 (by simp only [fillL, setL, List.getElem?_cons_zero, List.getElem?_cons_succ, Value.cells, List.take_zero, List.take_succ_cons, List.take_nil, List.drop_zero, List.drop_succ_cons, List.drop_nil, List.length_cons, List.length_nil, List.cons_append, List.nil_append, List.append_nil, Nat.zero_add, Nat.add_zero, Nat.reduceAdd, Nat.reduceBEq, Nat.reduceEqDiff, Nat.ble, BEq.rfl, Bool.and_true, Bool.and_self, cond_true, beq_self_eq_true]; rfl)) ?_)
      clear hl a; intro a hl
      refine wl (w_storeA hl hh trivial agg39 rfl rfl (by repeat (first | exact find_head | apply find_tail)) (by first | rfl | (simp; done) | exact respP _) (by first | (simp; done) | (simp; omega)) (by first | rfl | (simp; done)) (by first | (simp only [setL, List.getElem?_cons_zero, List.getElem?_cons_succ, Value.cells, List.take_zero, List.take_succ_cons, List.take_nil, List.drop_zero, List.drop_succ_cons, List.drop_nil, List.length_cons, List.length_nil, List.cons_append, List.nil_append, List.append_nil, Nat.zero_add, Nat.add_zero, Nat.reduceAdd, Nat.reduceBEq, Nat.reduceEqDiff, Nat.ble, BEq.rfl, Bool.and_true, Bool.and_self, cond_true, beq_self_eq_true]; rfl)) ?_)
      clear hh w; intro w hh
      refine wl (wl_val hl rfl trivial (r_assign hl rfl) ?_)
      clear hl a; intro a hl
      refine w_nil ?_
      have hl2 := hl.add (t := 4) (hl.add (t := 5) (hl.nil) rfl) rfl; clear hl; have hl := hl2; clear hl2
      refine then_normal ?_
      refine wp_ret ?_
      refine then_ret ?_
      refine f_retCT (F' := [(qb, C (arrL 37 (encP (stepF k m p).p)) 177), (b, C (arrL 16391 (encM (stepF k m p).m)) 116)]) hl hh rfl rfl agg39 (by repeat (first | exact find_head | apply find_tail)) (by first | rfl | (simp; done)) rfl (by repeat (first | exact keeps_nil | apply keeps_cons (by repeat (first | exact find_head | apply find_tail)) (by first  | rfl) | exact keeps_self | apply keeps_mv)) ?_
      exact ⟨by rw [show (stepF k m p).ret = false from hc1]; rfl, rfl⟩
    · intro hc1
      try simp only [decide_eq_true_eq, decide_eq_false_iff_not, Bool.not_eq_true', Bool.not_eq_false', Bool.not_eq_true, Bool.not_eq_false, Bool.and_eq_true, Bool.or_eq_true, Bool.and_eq_false_iff, Bool.or_eq_false_iff, Bool.not_not, ne_eq, Int.not_lt, Int.not_le, Decidable.not_not, beq_iff_eq, bne_iff_ne] at hc1
      refine wp_skip ?_
      refine then_normal ?_
      refine c_seq ?_
      refine c_region ?_
      refine wl (wl_val hl rfl trivial (r_move hl rfl) ?_)
      clear hl a; intro a hl
      refine wl (wl_val hl rfl trivial (r_nilCheck hl rfl) ?_)
      clear hl a; intro a hl
      refine wl (wl_val hl rfl trivial (r_field hl rfl fld177_8) ?_)
      clear hl a; intro a hl
      refine wl (w_loadA hl hh rfl trivial agg39 rfl (by repeat (first | exact find_head | apply find_tail)) (by first | exact respP _ | (simp only [List.getElem?_cons_zero, List.getElem?_cons_succ, Value.cells, List.take_zero, List.take_succ_cons, List.take_nil, List.drop_zero, List.drop_succ_cons, List.drop_nil, List.length_cons, List.length_nil, List.cons_append, List.nil_append, List.append_nil, Nat.zero_add, Nat.add_zero, Nat.reduceAdd, Nat.reduceBEq, Nat.reduceEqDiff, Nat.ble, BEq.rfl, Bool.and_true, Bool.and_self, cond_true, beq_self_eq_true]; rfl)) (by first | rfl | (simp; done)) ?_)
      clear hl a; intro a hl
      refine wl (w_storeA hl hh trivial agg39 rfl rfl (by repeat (first | exact find_head | apply find_tail)) (by first | rfl | (simp; done) | exact respP _) (by first | (simp; done) | (simp; omega)) (by first | rfl | (simp; done)) (by first | (simp only [setL, List.getElem?_cons_zero, List.getElem?_cons_succ, Value.cells, List.take_zero, List.take_succ_cons, List.take_nil, List.drop_zero, List.drop_succ_cons, List.drop_nil, List.length_cons, List.length_nil, List.cons_append, List.nil_append, List.append_nil, Nat.zero_add, Nat.add_zero, Nat.reduceAdd, Nat.reduceBEq, Nat.reduceEqDiff, Nat.ble, BEq.rfl, Bool.and_true, Bool.and_self, cond_true, beq_self_eq_true]; rfl)) ?_)
      clear hh w; intro w hh
      refine wl (wl_val hl rfl trivial (r_assign hl rfl) ?_)
      clear hl a; intro a hl
      refine w_nil ?_
      have hl2 := hl.add (t := 4) (hl.add (t := 5) (hl.nil) rfl) rfl; clear hl; have hl := hl2; clear hl2
      refine then_normal ?_
      refine wp_ret ?_
      refine f_retCT (F' := [(qb, C (arrL 37 (encP (stepF k m p).p)) 177), (b, C (arrL 16391 (encM (stepF k m p).m)) 116)]) hl hh rfl rfl agg39 (by repeat (first | exact find_head | apply find_tail)) (by first | rfl | (simp; done)) rfl (by repeat (first | exact keeps_nil | apply keeps_cons (by repeat (first | exact find_head | apply find_tail)) (by first  | rfl) | exact keeps_self | apply keeps_mv)) ?_
      exact ⟨by rw [show (stepF k m p).ret = true from hc1]; rfl, rfl⟩
end Go.Proofs.Qxb6500914aGreat

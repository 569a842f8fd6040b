import Derived.Test.Qxb6500907aR41
import Derived.Test.Qxb6500907aR13
import Derived.Test.Qxb6500907aR20
namespace Go.Proofs.Qxb6500907a
open Go.Eng
set_option linter.unusedVariables false
set_option linter.unusedSimpArgs false

/-! ## the texts of the script -/
theorem src_list {p : Option Addr} {N cap : Nat} {Sc : List (Nat × Obj)} (h : Src (.slice p N cap) N Sc) : ∃ src : List Int, src.length = N ∧ SrcL (.slice p src.length cap) src Sc ∧ BW src := by
  obtain ⟨p', cap', e, h1, h2, h3⟩ := h
  injection e with e1 _ e3
  subst e1; subst e3
  rcases h3 with ⟨rfl, rfl⟩ | ⟨h0, db, off, c, T, fr, bs, rfl, rfl, hb⟩
  · exact ⟨[], rfl, ⟨p, cap, rfl, h1, h2, .inl ⟨rfl, rfl⟩⟩, fun x hx => by cases hx⟩
  · have hl : ((List.range N).map bs).length = N := by simp
    have hg : ∀ i, i < N → gD ((List.range N).map bs) i = bs i := fun i hi => by
      unfold gD
      rw [List.getD_eq_getElem?_getD, List.getElem?_map, List.getElem?_range hi]
      rfl
    refine ⟨(List.range N).map bs, hl, ⟨_, cap, rfl, by omega, by omega, .inr ⟨by omega, db, off, c, T, fr, rfl, rfl, fun i hi => ?_⟩⟩, fun x hx => ?_⟩
    · rw [hl] at hi
      rw [hg i hi]
      exact hb i hi
    · obtain ⟨i, hi, rfl⟩ := List.mem_map.1 hx
      exact (hb i (List.mem_range.1 hi)).2
theorem rd_no {src : List Int} (h : RdE src) (hp : parM src = none) : (prD src).err.isNone = false := by
  unfold RdE at h
  rw [hp] at h
  exact h
theorem rd_yes {src : List Int} (h : RdE src) {id : Int} {cs : List Ch} (hp : parM src = some (id, cs)) : (prD src).err.isNone = true ∧ (prB src).1 = id ∧ (prC src).1 = cs := by
  unfold RdE at h
  rw [hp] at h
  exact h
section
variable (p : Option Addr) (cap : Nat) (src : List Int) (Sc : List (Nat × Obj)) (hS : SrcL (.slice p src.length cap) src Sc) (hB : BW src)
include hS hB
theorem pF_no (hp : parM src = none) : SpK Try.prog 13 #[.slice p src.length cap] (fun w => Mem Sc w ∧ (Sc.map Prod.fst).Nodup) [] (fun v F' => ∃ k c e, v = .tuple #[.agg ⟨[.int .u32 0, .slice none 0 0]⟩, .iface 77 (.pointer (some ⟨k, 0, none⟩))] ∧ F' = [(k, C [.int .u8 c, .int .i64 e] 79)]) := by
  have h0 := rd_no (read_eq src hB) hp
  refine sp_borrow (parseF p cap src Sc hS) ?_
  rintro v F' (⟨h1, _⟩ | ⟨k, c, e, _, rfl, rfl⟩)
  · rw [h1] at h0; cases h0
  · exact ⟨_, rfl, k, c, e, rfl, rfl⟩
theorem pF_yes {id : Int} {cs : List Ch} (hp : parM src = some (id, cs)) : SpK Try.prog 13 #[.slice p src.length cap] (fun w => Mem Sc w ∧ (Sc.map Prod.fst).Nodup) [] (fun v F' => ∃ q qc, v = .tuple #[.agg ⟨[.int .u32 id, .slice q cs.length qc]⟩, .nilIface] ∧ Row (.slice q cs.length qc) cs.length (chs cs) 12 57 F') := by
  obtain ⟨h0, h1, h2⟩ := rd_yes (read_eq src hB) hp
  refine sp_borrow (parseF p cap src Sc hS) ?_
  rintro v F' (⟨_, rv, E, rfl, hR, rfl⟩ | ⟨k, c, e, h3, _⟩)
  · rw [h1, h2] at *
    obtain ⟨q, qc, rfl⟩ := row_val hR
    exact ⟨E, rfl, q, qc, rfl, hR⟩
  · rw [h3] at h0; cases h0
omit hB in
theorem pM_no (hN : src.length ≤ 65536) (hp : parM src = none) : SpK Try.prog 24 #[.slice p src.length cap] (fun w => Mem Sc w ∧ (Sc.map Prod.fst).Nodup) [] (fun v F' => v = .tuple #[.agg ⟨[.int .u32 0, .slice none 0 0]⟩, .bool false] ∧ F' = []) := by
  refine sp_borrow (parseM p cap src Sc hN hS) ?_
  rintro v F' (⟨_, rfl, rfl⟩ | ⟨id, cs, rv, E, h1, _⟩)
  · exact ⟨[], rfl, rfl, rfl⟩
  · rw [hp] at h1; cases h1
omit hB in
theorem pM_yes (hN : src.length ≤ 65536) {id : Int} {cs : List Ch} (hp : parM src = some (id, cs)) : SpK Try.prog 24 #[.slice p src.length cap] (fun w => Mem Sc w ∧ (Sc.map Prod.fst).Nodup) [] (fun v F' => ∃ q qc, v = .tuple #[.agg ⟨[.int .u32 id, .slice q cs.length qc]⟩, .bool true] ∧ Row (.slice q cs.length qc) cs.length (chs cs) 12 57 F' ∧ (∀ c, c ∈ cs → c.ok) ∧ cs.length ≤ 1000000) := by
  refine sp_borrow (R := fun v F' => ∃ q qc E, v = .tuple #[.agg ⟨[.int .u32 id, .slice q cs.length qc]⟩, .bool true] ∧ Row (.slice q cs.length qc) cs.length (chs cs) 12 57 E ∧ (∀ c, c ∈ cs → c.ok) ∧ cs.length ≤ 1000000 ∧ F' = E ++ Sc) (spK_post (parseM p cap src Sc hN hS) (fun _ h => h) ?_) ?_
  · rintro v F' (⟨h1, _⟩ | ⟨id', cs', rv, E, h1, rfl, hR, h4, h5, rfl⟩)
    · rw [hp] at h1; cases h1
    · rw [hp] at h1
      injection h1 with h1
      injection h1 with e1 e2
      subst e1; subst e2
      obtain ⟨q, qc, rfl⟩ := row_val hR
      exact ⟨E ++ Sc, [], ⟨q, qc, E, rfl, hR, h4, by omega, rfl⟩, by rw [List.append_nil]; exact List.perm_append_comm⟩
  · rintro v F' ⟨q, qc, E, rfl, hR, h4, h5, rfl⟩
    exact ⟨E, rfl, q, qc, rfl, hR, h4, h5⟩
end
theorem new_net (kn : Nat) (mb : Nat → Nat) : NetM kn ⟨mb, nilV, fun _ => [], fun _ => 0, noB, noB⟩ pz ((kn, C (arrL 544 (nmC (mvF mb) nilV noB noB)) 116) :: mpB mb (fun _ => []) (fun _ => 0) 16) := by
  have h0 : bitF 0 = fun p : Int => bitF 0 p := rfl
  have hb : ∀ p : Nat, p < 16 → bitF 0 (p : Int) = false := fun p hp => by
    rw [bit_test (by omega) hp]
    simp
  refine ⟨⟨fun d hd => DRel.nil, fun d p hd hp => (hb p hp).symm, fun d p hd hp => (hb p hp).symm, fun d hd r hr => by cases hr⟩, List.mem_cons_self, fun d hd => List.mem_cons_of_mem _ (List.mem_map.2 ⟨d, List.mem_range.2 hd, rfl⟩), fun d hd => ⟨[], Row.nil _ _, fun x hx => by cases hx⟩⟩


set_option maxHeartbeats 1000000 in
theorem small3 (sb : Nat) (c : List Value) (T : TypeId) (fr : Nat × Nat) (p : Option Addr) (n cap : Nat) (ops : List DO) (hn : n = ops.length) (hlen : n ≤ 9223372036854775807) (h : DOps sb c p cap ops) (hb : ∀ d, d ∈ ops → d.N ≤ 140737488351232) : SpK Try.prog 8 #[.slice p n cap] (DIn sb c T fr ops) [] (fun v F' => (∃ t, v = .bool t ∧ (t = true → n ≤ 65536 ∧ ∀ d, d ∈ ops → d.N ≤ 65536)) ∧ F' = []) := by
  refine f_enter (args := [.slice p n cap]) Try.func8 rfl Try.ntmps8 rfl ?_
  intro w0 w a hpre hl hh
  simp only [slotsFrom, Nat.reduceAdd] at hl
  refine c_seq ?_
  refine c_region ?_
  refine wl (wl_val hl rfl trivial (r_assign hl rfl) ?_)
  clear hl a; intro a hl
  refine w_nil ?_
  have hl2 := hl.add (t := 0) (hl.nil) rfl; clear hl; have hl := hl2; clear hl2
  refine then_normal ?_
  refine c_seq ?_
  refine c_region ?_
  refine wl (wl_val hl rfl trivial (r_move hl rfl) ?_)
  clear hl a; intro a hl
  refine wl (wl_val hl rfl trivial (r_lenS hl rfl slc22) ?_)
  clear hl a; intro a hl
  refine wl (wl_val hl rfl trivial (r_assign hl rfl) ?_)
  clear hl a; intro a hl
  refine w_nil ?_
  have hl2 := hl.add (t := 0) (hl.add (t := 3) (hl.nil) rfl) rfl; clear hl; have hl := hl2; clear hl2
  refine then_normal ?_
  refine c_seq ?_
  refine c_seq ?_
  refine c_region ?_
  refine wl (wl_val hl rfl trivial (r_move hl rfl) ?_)
  clear hl a; intro a hl
  refine wl (wl_val hl rfl trivial (r_gtr hl rfl rfl) ?_)
  clear hl a; intro a hl
  refine w_nil ?_
  have hl2 := hl.add (t := 0) (hl.add (t := 3) (hl.add (t := 8) (hl.nil) rfl) rfl) rfl; clear hl; have hl := hl2; clear hl2
  refine then_normal ?_
  refine c_cond hl rfl ?_ ?_
  · intro hc0
    try simp only [decide_eq_true_eq, decide_eq_false_iff_not, Bool.not_eq_true', Bool.not_eq_false', Bool.not_eq_true, Bool.not_eq_false, Bool.and_eq_true, Bool.or_eq_true, Bool.and_eq_false_iff, Bool.or_eq_false_iff, Bool.not_not, ne_eq, Int.not_lt, Int.not_le, Decidable.not_not, beq_iff_eq, bne_iff_ne] at hc0
    refine c_seq ?_
    refine c_region ?_
    refine wl (wl_val hl rfl trivial (r_assign hl rfl) ?_)
    clear hl a; intro a hl
    refine w_nil ?_
    have hl2 := hl.add (t := 2) (hl.nil) rfl; clear hl; have hl := hl2; clear hl2
    refine then_normal ?_
    refine wp_ret ?_
    refine then_ret ?_
    refine f_ret1 (F' := []) hl hh rfl rfl (by repeat (first | exact keeps_nil | apply keeps_cons (by repeat (first | exact find_head | apply find_tail)) (by first  | rfl) | exact keeps_self | apply keeps_mv)) ?_
    first | exact ⟨⟨_, rfl, fun h => Bool.noConfusion h⟩, rfl⟩ | exact ⟨⟨_, rfl, fun _ => ⟨by omega, fun d hd => by obtain ⟨j, hj⟩ := List.getElem?_of_mem hd; exact hal j d (by have := (List.getElem?_eq_some_iff.1 hj).1; omega) hj⟩⟩, rfl⟩
  · intro hc0
    try simp only [decide_eq_true_eq, decide_eq_false_iff_not, Bool.not_eq_true', Bool.not_eq_false', Bool.not_eq_true, Bool.not_eq_false, Bool.and_eq_true, Bool.or_eq_true, Bool.and_eq_false_iff, Bool.or_eq_false_iff, Bool.not_not, ne_eq, Int.not_lt, Int.not_le, Decidable.not_not, beq_iff_eq, bne_iff_ne] at hc0
    refine wp_skip ?_
    refine then_normal ?_
    refine c_seq ?_
    refine c_seq ?_
    refine c_region ?_
    refine wl (wl_val hl rfl trivial (r_assign hl rfl) ?_)
    clear hl a; intro a hl
    refine w_nil ?_
    have hl2 := hl.add (t := 0) (hl.add (t := 3) (hl.add (t := 4) (hl.nil) rfl) rfl) rfl; clear hl; have hl := hl2; clear hl2
    refine then_normal ?_
    refine wp_block ?_
    obtain ⟨KS0, hKS0, hk⟩ := (hl.add (t := 0) (hl.nil) rfl).name
    obtain ⟨HS0, hHS0, hh2⟩ := hh.name (keeps_nil)
    refine c_loop (α := Nat × Int) (fun s => n - s.1) (fun s a w => (s.1 ≤ n ∧ (0 ≤ s.2 ∧ s.2 ≤ 65536) ∧ ∀ j d, j < s.1 → ops[j]? = some d → d.N ≤ 65536) ∧ Sl 25 ([(4, .int .i64 s.1), (3, .int .i64 s.2)] ++ KS0) a ∧ Has _ w0 ([] ++ HS0) w) (0, (n : Int)) ⟨⟨by simp, ⟨by simp only; omega, by simp only; omega⟩, fun j d hj => absurd hj (Nat.not_lt_zero _)⟩, hl.addE (t := 4) (hl.addE (t := 3) (hk) rfl (by first | rfl)) rfl (by first | rfl), hh2⟩ ?_
    clear hk hh2 hl hh a w
    intro s a w hI
    obtain ⟨⟨hi, hac, hal⟩, hl, hh⟩ := hI
    subst hKS0; subst hHS0
    simp only [List.cons_append, List.nil_append, List.append_nil] at hl hh
    obtain ⟨i, acc⟩ := s
    simp only at hi hac hal hl
    refine c_seq ?_
    refine c_seq ?_
    refine c_region ?_
    refine wl (wl_val hl rfl trivial (r_move hl rfl) ?_)
    clear hl a; intro a hl
    refine wl (wl_val hl rfl trivial (r_move hl rfl) ?_)
    clear hl a; intro a hl
    refine wl (wl_val hl rfl trivial (r_lenS hl rfl slc22) ?_)
    clear hl a; intro a hl
    refine wl (wl_val hl rfl trivial (r_lss hl rfl rfl) ?_)
    clear hl a; intro a hl
    refine w_nil ?_
    have hl2 := hl.add (t := 0) (hl.add (t := 3) (hl.add (t := 4) (hl.add (t := 12) (hl.nil) rfl) rfl) rfl) rfl; clear hl; have hl := hl2; clear hl2
    refine then_normal ?_
    refine c_cond hl rfl ?_ ?_
    · intro hc1
      try simp only [decide_eq_true_eq, decide_eq_false_iff_not, Bool.not_eq_true', Bool.not_eq_false', Bool.not_eq_true, Bool.not_eq_false, Bool.and_eq_true, Bool.or_eq_true, Bool.and_eq_false_iff, Bool.or_eq_false_iff, Bool.not_not, ne_eq, Int.not_lt, Int.not_le, Decidable.not_not, beq_iff_eq, bne_iff_ne] at hc1
      obtain ⟨so, rfl, hat⟩ := h.at_ (by omega)
      obtain ⟨d, hd⟩ : ∃ d, ops[i]? = some d := ⟨_, List.getElem?_eq_getElem (by omega)⟩
      have hqv := hat i d hd
      have hdm := List.mem_of_getElem? hd
      have hdok := h.ok d hdm
      have hm := hpre.1 (by omega)
      have hms := hpre.2 d hdm
      have hbN := hb d hdm
      obtain ⟨dkd, did, ⟨ckd, cdv, cpr, cix, cup, cra, crl, cvia, cpm, cda, cdl, ccl⟩, dp, dN, dcap, dSc⟩ := d
      simp only [DO.vals] at hqv
      have hsrc := hdok.src
      simp only at hsrc hms hbN
      refine wp_skip ?_
      refine then_normal ?_
      refine c_seq ?_
      refine wp_block ?_
      refine c_seq ?_
      refine c_region ?_
      refine wl (wl_val hl rfl trivial (r_move hl rfl) ?_)
      clear hl a; intro a hl
      refine wl (wl_val hl rfl trivial (r_move hl rfl) ?_)
      clear hl a; intro a hl
      refine wl (wl_val hl rfl trivial (r_move hl rfl) ?_)
      clear hl a; intro a hl
      refine wl (wl_val hl rfl trivial (r_indexS hl rfl rfl slc22 (by omega) (by omega) (by first | (simp only [Int.reduceToNat]; rfl) | exact toNat_add1 _ | exact toNat_add2 _ _ | exact toNat_emod _ _ | exact Int.toNat_natCast _ | rfl)) ?_)
      clear hl a; intro a hl
      refine wl (wl_val hl rfl trivial (r_field hl rfl fld59_3) ?_)
      clear hl a; intro a hl
      first | refine wl (w_load hl hh rfl trivial one41 rfl (by repeat (first | exact find_head | apply find_tail)) (by first | rfl) ?_) | refine wl (w_loadR hl hh rfl trivial one41 rfl hm (by simp) (getElem?_of_take hqv (k := 14) rfl) ?_)
      clear hl a; intro a hl
      refine wl (wl_val hl rfl trivial (r_lenS hl rfl slc41) ?_)
      clear hl a; intro a hl
      first | refine wl (wl_val hl rfl trivial (r_add hl rfl rfl (by simp only [Fits]; omega)) ?_) | refine wl (wl_val hl rfl trivial (r_addW hl rfl rfl) ?_)
      clear hl a; intro a hl
      refine wl (wl_val hl rfl trivial (r_assign hl rfl) ?_)
      clear hl a; intro a hl
      refine w_nil ?_
      have hl2 := hl.add (t := 0) (hl.add (t := 3) (hl.add (t := 4) (hl.nil) rfl) rfl) rfl; clear hl; have hl := hl2; clear hl2
      refine then_normal ?_
      refine c_seq ?_
      refine c_region ?_
      refine wl (wl_val hl rfl trivial (r_move hl rfl) ?_)
      clear hl a; intro a hl
      refine wl (wl_val hl rfl trivial (r_gtr hl rfl rfl) ?_)
      clear hl a; intro a hl
      refine w_nil ?_
      have hl2 := hl.add (t := 0) (hl.add (t := 3) (hl.add (t := 4) (hl.add (t := 24) (hl.nil) rfl) rfl) rfl) rfl; clear hl; have hl := hl2; clear hl2
      refine then_normal ?_
      refine c_cond hl rfl ?_ ?_
      · intro hc2
        try simp only [decide_eq_true_eq, decide_eq_false_iff_not, Bool.not_eq_true', Bool.not_eq_false', Bool.not_eq_true, Bool.not_eq_false, Bool.and_eq_true, Bool.or_eq_true, Bool.and_eq_false_iff, Bool.or_eq_false_iff, Bool.not_not, ne_eq, Int.not_lt, Int.not_le, Decidable.not_not, beq_iff_eq, bne_iff_ne] at hc2
        refine c_seq ?_
        refine c_region ?_
        refine wl (wl_val hl rfl trivial (r_assign hl rfl) ?_)
        clear hl a; intro a hl
        refine w_nil ?_
        have hl2 := hl.add (t := 2) (hl.nil) rfl; clear hl; have hl := hl2; clear hl2
        refine then_normal ?_
        refine wp_ret ?_
        refine blk_ret ?_
        refine then_ret ?_
        refine then_ret ?_
        refine blk_ret ?_
        refine then_ret ?_
        refine f_ret1 (F' := []) hl hh rfl rfl (by repeat (first | exact keeps_nil | apply keeps_cons (by repeat (first | exact find_head | apply find_tail)) (by first  | rfl) | exact keeps_self | apply keeps_mv)) ?_
        first | exact ⟨⟨_, rfl, fun h => Bool.noConfusion h⟩, rfl⟩ | exact ⟨⟨_, rfl, fun _ => ⟨by omega, fun d hd => by obtain ⟨j, hj⟩ := List.getElem?_of_mem hd; exact hal j d (by have := (List.getElem?_eq_some_iff.1 hj).1; omega) hj⟩⟩, rfl⟩
      · intro hc2
        try simp only [decide_eq_true_eq, decide_eq_false_iff_not, Bool.not_eq_true', Bool.not_eq_false', Bool.not_eq_true, Bool.not_eq_false, Bool.and_eq_true, Bool.or_eq_true, Bool.and_eq_false_iff, Bool.or_eq_false_iff, Bool.not_not, ne_eq, Int.not_lt, Int.not_le, Decidable.not_not, beq_iff_eq, bne_iff_ne] at hc2
        refine wp_skip ?_
        refine blk_normal ?_
        refine then_normal ?_
        refine c_region ?_
        refine wl (wl_val hl rfl trivial (r_move hl rfl) ?_)
        clear hl a; intro a hl
        first | refine wl (wl_val hl rfl trivial (r_add hl rfl rfl (by simp only [Fits]; omega)) ?_) | refine wl (wl_val hl rfl trivial (r_addW hl rfl rfl) ?_)
        clear hl a; intro a hl
        refine wl (wl_val hl rfl trivial (r_assign hl rfl) ?_)
        clear hl a; intro a hl
        refine w_nil ?_
        have hl2 := hl.add (t := 0) (hl.add (t := 3) (hl.add (t := 4) (hl.nil) rfl) rfl) rfl; clear hl; have hl := hl2; clear hl2
        refine then_normal ?_
        refine ⟨(i + 1, acc + dN), (by simp only; omega), ⟨by simp only; omega, ⟨by simp only; omega, by simp only; omega⟩, fun j d hj hd9 => by (rcases Nat.lt_or_ge j i with h9 | h9); exact hal j d h9 hd9; (have e9 : j = i := by simp only at hj; omega); (subst e9; rw [hd] at hd9; injection hd9 with hd9; subst hd9; simp only; omega)⟩, hl.addE (t := 4) (hl.addE (t := 3) (hl.addE (t := 0) (hl.nil) rfl (by first | rfl | rfl)) rfl (by first | rfl | rfl)) rfl (by first | rfl | rfl), hh.keep (by repeat (first | exact keeps_nil | apply keeps_cons (by repeat (first | exact find_head | apply find_tail)) (by first  | rfl) | exact keeps_self | apply keeps_mv))⟩
    · intro hc1
      try simp only [decide_eq_true_eq, decide_eq_false_iff_not, Bool.not_eq_true', Bool.not_eq_false', Bool.not_eq_true, Bool.not_eq_false, Bool.and_eq_true, Bool.or_eq_true, Bool.and_eq_false_iff, Bool.or_eq_false_iff, Bool.not_not, ne_eq, Int.not_lt, Int.not_le, Decidable.not_not, beq_iff_eq, bne_iff_ne] at hc1
      refine wp_exit ?_
      refine then_exit ?_
      refine then_exit ?_
      refine blk_exit ?_
      refine then_normal ?_
      refine c_seq ?_
      refine c_region ?_
      refine wl (wl_val hl rfl trivial (r_assign hl rfl) ?_)
      clear hl a; intro a hl
      refine w_nil ?_
      have hl2 := hl.add (t := 2) (hl.nil) rfl; clear hl; have hl := hl2; clear hl2
      refine then_normal ?_
      refine wp_ret ?_
      refine f_ret1 (F' := []) hl hh rfl rfl (by repeat (first | exact keeps_nil | apply keeps_cons (by repeat (first | exact find_head | apply find_tail)) (by first  | rfl) | exact keeps_self | apply keeps_mv)) ?_
      first | exact ⟨⟨_, rfl, fun h => Bool.noConfusion h⟩, rfl⟩ | exact ⟨⟨_, rfl, fun _ => ⟨by omega, fun d hd => by obtain ⟨j, hj⟩ := List.getElem?_of_mem hd; exact hal j d (by have := (List.getElem?_eq_some_iff.1 hj).1; omega) hj⟩⟩, rfl⟩
end Go.Proofs.Qxb6500907a

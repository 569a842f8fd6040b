import Derived.Test.Qxb6500911aGreatDoorD1
namespace Go.Proofs.Qxb6500911aGreatDoor
open Go.Eng
set_option linter.unusedVariables false
set_option linter.unusedSimpArgs false
theorem cal35 : callable Tryz.prog 35 = true := by kernel_rfl
/-! ## the model's state and its successors -/
theorem md_eps {f : Nat → Value} {ep : Nat → Int} (h : ∀ t, t < 16 → f (2 + t) = .int .u64 (ep t)) : ((arrL 22 f).drop (0 + 2)).take 16 = arrL 16 (fun q => .int .u64 (ep q)) := by
  rw [arrL_cut (by omega)]
  refine arrL_congr fun j hj => ?_
  rw [← h j hj]
def sucS (ep : Nat → Int) (rel : Nat → BitVec 16) (y : Eg) : Nat → BitVec 16 := if y.e = ep y.w ∧ 0 < y.n then (fun j => if j = y.w then rel y.w ||| bitB y.h else rel j) else rel
def sucC (g : Gs) : Nat → (Nat → BitVec 16)
  | 0 => fun _ => 0#16
  | c + 1 => (edN (wsK g.ws c) 16).foldl (sucS g.ep) (sucC g c)
theorem sucL_get {ep : Nat → Int} {t k : Nat} (hk : k < 16) : ∀ (l : List Eg) (rel : Nat → BitVec 16), ((l.foldl (sucS ep) rel) t).getLsbD k = true ↔ ((rel t).getLsbD k = true ∨ ∃ y, y ∈ l ∧ y.w = t ∧ y.e = ep t ∧ 0 < y.n ∧ y.h = k)
  | [], rel => ⟨fun h => .inl h, fun h => by rcases h with h | ⟨y, hy, _⟩; exact h; cases hy⟩
  | x :: l, rel => by
    rw [List.foldl_cons, sucL_get hk l (sucS ep rel x)]
    constructor
    · rintro (h | ⟨y, hy, h⟩)
      · unfold sucS at h
        split at h
        · rename_i hc
          by_cases e : t = x.w
          · simp only [if_pos e, BitVec.getLsbD_or, Bool.or_eq_true, bit_get hk, decide_eq_true_eq] at h
            rcases h with h | h
            · exact .inl (by rw [e]; exact h)
            · exact .inr ⟨x, .head _, e.symm, by rw [e]; exact hc.1, hc.2, h⟩
          · simp only [if_neg e] at h; exact .inl h
        · exact .inl h
      · exact .inr ⟨y, .tail _ hy, h⟩
    · rintro (h | ⟨y, hy, h1, h2, h3, h4⟩)
      · left
        unfold sucS
        split
        · by_cases e : t = x.w
          · simp only [if_pos e, BitVec.getLsbD_or, Bool.or_eq_true]; exact .inl (by rw [← e]; exact h)
          · simp only [if_neg e]; exact h
        · exact h
      · cases hy with
        | head =>
          left
          unfold sucS
          rw [if_pos ⟨by rw [h1]; exact h2, h3⟩]
          simp only [if_pos h1.symm, BitVec.getLsbD_or, Bool.or_eq_true, bit_get hk, decide_eq_true_eq]
          exact .inr h4
        | tail _ hy => exact .inr ⟨y, hy, h1, h2, h3, h4⟩
theorem sucC_get {g : Gs} {t k : Nat} (hk : k < 16) : ∀ n, ((sucC g n) t).getLsbD k = true ↔ ∃ c y, c < n ∧ y ∈ edN (wsK g.ws c) 16 ∧ y.w = t ∧ y.e = g.ep t ∧ 0 < y.n ∧ y.h = k
  | 0 => ⟨fun h => by simp [sucC] at h, fun ⟨c, _, h, _⟩ => absurd h (Nat.not_lt_zero _)⟩
  | n + 1 => by
    rw [sucC, sucL_get hk, sucC_get hk n]
    constructor
    · rintro (⟨c, y, h1, h2⟩ | ⟨y, h1, h2⟩)
      · exact ⟨c, y, by omega, h2⟩
      · exact ⟨n, y, Nat.lt_succ_self _, h1, h2⟩
    · rintro ⟨c, y, h1, h2⟩
      by_cases e : c = n
      · subst e; exact .inr ⟨y, h2⟩
      · exact .inl ⟨c, y, by omega, h2⟩
theorem suc_eq {B Q : Int} {g : Gs} (hG : GI B Q g) {t : Nat} (ht : t < 16) : sucC g 4 t = maskN (nt (g.ws t) (g.ep t)) 16 := by
  rw [← prF_eq ht (hG.ok t ht) (e := g.ep t)]
  apply BitVec.eq_of_getLsbD_eq
  intro k hk
  rw [Bool.eq_iff_iff, sucC_get hk 4]
  unfold prF
  rw [prF_get' hk]
  constructor
  · rintro ⟨c, y, h1, h2, h3, h4⟩
    have hc := ((ed_in hG.ok).1 h2).c
    rw [h3] at hc
    exact .inr ⟨y, by rw [hc]; exact h2, h3, h4⟩
  · rintro (h | ⟨y, h2, h3, h4⟩)
    · simp at h
    · exact ⟨t % 4, y, Nat.mod_lt _ (by omega), h2, h3, h4⟩
structure UZ where
  rel : Nat → BitVec 16
  i : Nat
theorem suc_T {ep : Nat → Int} {rel : Nat → BitVec 16} {y : Eg} (h1 : y.e = ep y.w) (h2 : 0 < y.n) : (fun j => if j = y.w then rel y.w ||| bitB y.h else rel j) = sucS ep rel y := by unfold sucS; rw [if_pos ⟨h1, h2⟩]
theorem suc_F {ep : Nat → Int} {rel : Nat → BitVec 16} {y : Eg} (h : ¬ (y.e = ep y.w ∧ 0 < y.n)) : rel = sucS ep rel y := by unfold sucS; rw [if_neg h]
theorem suc_snoc {ep : Nat → Int} {rel : Nat → BitVec 16} {l : List Eg} {i : Nat} {y : Eg} (h : l[i]? = some y) : (l.take (i + 1)).foldl (sucS ep) rel = sucS ep ((l.take i).foldl (sucS ep) rel) y := by rw [List.take_add_one, h, List.foldl_append]; rfl


set_option maxHeartbeats 4000000 in
theorem state_spec {g : Gs} {got : Nat → List Ms} {M : Dm} {B Q : Int} {L : Nat} (hR0 : MR Q L g got M) (bd : Nat) (tT : TypeId) (tf : Nat × Nat) (hL : L ≤ 100000000) (hq : BQ B Q) (hG : GI B Q g) : SpK Tryz.prog 10 #[.pointer (some ⟨bd, 0, none⟩)] (fun w => Mem (mdL bd M) w ∧ w.heap[0]? = some (.cells ⟨tabL⟩ tT tf)) [] (fun v F' => ∃ ev bv Ee Eb, v = .agg ⟨snC g ev bv⟩ ∧ SnR g ev bv Ee Eb ∧ F' = fam Ee 4 ++ fam Eb 16) := by
  refine f_enter (args := [.pointer (some ⟨bd, 0, none⟩)]) Tryz.func10 rfl Tryz.ntmps10 rfl ?_
  intro w0 w a hpre hl hh
  have hD := hR0.md
  have hmD := hpre.1 _ _ (List.mem_cons_self ..)
  have hmM := (mem_app (mem_app (mem_tl hpre.1)).2).1
  have hmT := (mem_app (mem_app (mem_tl hpre.1)).2).2
  simp only [slotsFrom, Nat.reduceAdd] at hl
  refine c_seq ?_
  refine c_region ?_
  refine wl (w_alloc hl hh rfl trivial zero52 rfl ?_)
  clear hl hh a w; intro k2 a w hl hh
  refine w_nil ?_
  have hl2 := hl.add (t := 0) (hl.add (t := 2) (hl.nil) rfl) rfl; clear hl; have hl := hl2; clear hl2
  refine then_normal ?_
  refine c_seq ?_
  refine c_draw [(bd, C (arrL 22 M.fd) 65)] [11] mixed hh ?_
  clear hh w; intro w hh
  have hM : Mem [(bd, C (arrL 22 M.fd) 65)] w := (by (repeat (first | exact Mem.nil | refine Mem.consR hh (by assumption) (by simp) ?_ | refine Mem.cons hh.mem (by (repeat (first | exact find_head | apply find_tail | apply find_skip)); done) ?_ | fail)); done)
  refine d_take (i := 0) hl rfl (by kernel_rfl) (by kernel_rfl) (by kernel_rfl) (by kernel_rfl) (by kernel_rfl) rfl trivial (fun _ _ _ h => h) hM (fun w hC => r_move hl rfl) rfl ?_
  clear hl a; intro a hl
  refine d_take (i := 1) hl rfl (by kernel_rfl) (by kernel_rfl) (by kernel_rfl) (by kernel_rfl) (by kernel_rfl) rfl trivial (fun _ _ _ h => h) hM (fun w hC => r_nilCheck hl rfl) rfl ?_
  clear hl a; intro a hl
  refine d_take (i := 2) hl rfl (by kernel_rfl) (by kernel_rfl) (by kernel_rfl) (by kernel_rfl) (by kernel_rfl) rfl trivial (fun _ _ _ h => h) hM (fun w hC => r_field hl rfl fld65_2) rfl ?_
  clear hl a; intro a hl
  refine d_take (i := 3) hl rfl (by kernel_rfl) (by kernel_rfl) (by kernel_rfl) (by kernel_rfl) (by kernel_rfl) rfl trivial (fun _ _ _ h => h) hM (fun w hC => r_loadCA hl rfl agg43 hC (by repeat (first | exact find_head | apply find_tail | apply find_skip)) (by exact md_eps hD.ep) (by exact arrL_length _ _)) rfl ?_
  clear hl a; intro a hl
  refine d_take (i := 4) hl rfl (by kernel_rfl) (by kernel_rfl) (by kernel_rfl) (by kernel_rfl) (by kernel_rfl) rfl trivial (fun _ _ _ h => h) hM (fun w hC => r_move hl rfl) rfl ?_
  clear hl a; intro a hl
  refine d_take (i := 5) hl rfl (by kernel_rfl) (by kernel_rfl) (by kernel_rfl) (by kernel_rfl) (by kernel_rfl) rfl trivial (fun _ _ _ h => h) hM (fun w hC => r_nilCheck hl rfl) rfl ?_
  clear hl a; intro a hl
  refine d_take (i := 6) hl rfl (by kernel_rfl) (by kernel_rfl) (by kernel_rfl) (by kernel_rfl) (by kernel_rfl) rfl trivial (fun _ _ _ h => h) hM (fun w hC => r_field hl rfl fld65_0) rfl ?_
  clear hl a; intro a hl
  refine d_take (i := 7) hl rfl (by kernel_rfl) (by kernel_rfl) (by kernel_rfl) (by kernel_rfl) (by kernel_rfl) rfl trivial (fun _ _ _ h => h) hM (fun w hC => r_loadC hl rfl one26 hC (by repeat (first | exact find_head | apply find_tail | apply find_skip)) (by first | exact md_p0 hD.p0 | rfl)) rfl ?_
  clear hl a; intro a hl
  refine d_two (i := 8) (j := 10) (by kernel_rfl) rfl rfl ?_ ?_
  ·
    try clear hM
    refine id (w_call hl hh rfl trivial rfl cal27 rfl (waitsFor_spec hD.tb M.bt hG.ti) (by repeat (first | exact keeps_nil | apply keeps_cons (by repeat (first | exact find_head | apply find_tail | apply find_skip)) (by first  | rfl) | exact keeps_self | exact keeps_left | apply keeps_app | apply keeps_mv | apply keeps_skip)) (mem_keep hh hmT) ?_)
    clear hl hh a w; intro vc Fc a w hR hl hh
    obtain ⟨rfl, rfl⟩ := hR
    try simp only [List.cons_append, List.nil_append, List.append_assoc, List.append_nil] at hh
    have hM : Mem [(bd, C (arrL 22 M.fd) 65)] w := (by (repeat (first | exact Mem.nil | refine Mem.consR hh (by assumption) (by simp) ?_ | refine Mem.cons hh.mem (by (repeat (first | exact find_head | apply find_tail | apply find_skip)); done) ?_ | fail)); done)
    refine d_step (fun _ => hM) ?_
    refine d_take (i := 9) hl rfl (by kernel_rfl) (by kernel_rfl) (by kernel_rfl) (by kernel_rfl) (by kernel_rfl) rfl trivial (fun _ _ _ h => h) hM (fun w hC => r_build hl rfl zero52 bld52 (fill75 rfl rfl rfl rfl)) rfl ?_
    clear hl a; intro a hl
    refine d_one (i := 10) (by kernel_rfl) rfl ?_
    try clear hM
    refine id (w_alloc hl hh rfl trivial zero52 rfl ?_)
    clear hl hh a w; intro k3 a w hl hh
    have hM : Mem [(bd, C (arrL 22 M.fd) 65)] w := (by (repeat (first | exact Mem.nil | refine Mem.consR hh (by assumption) (by simp) ?_ | refine Mem.cons hh.mem (by (repeat (first | exact find_head | apply find_tail | apply find_skip)); done) ?_ | fail)); done)
    refine d_step (fun _ => hM) ?_
    refine d_one (i := 11) (by kernel_rfl) rfl ?_
    try clear hM
    refine id (w_storeA hl hh trivial agg52 rfl rfl (by repeat (first | exact find_head | apply find_tail | apply find_skip)) (by exact arrL_length _ _) (by first | exact Nat.le_of_eq (arrL_length _ _).symm | (rw [arrL_length]; exact Nat.le_refl _)) (by first | exact stV_one (fun _ => rfl) (fun _ => rfl) | exact stV_one2 (fun c hc => (hZr c hc).one) (fun b hb => (hYr b hb).one)) (by exact setL_whole (by rw [arrL_length, arrL_length])) ?_)
    clear hh w; intro w hh
    refine d_step (fun h => absurd h (by decide)) ?_
    refine d_done (by kernel_rfl) ?_
    try clear hM
    have hl2 := hl.add (t := 0) (hl.add (t := 2) (hl.add (t := 3) (hl.nil) rfl) rfl) rfl; clear hl; have hl := hl2; clear hl2
    refine then_normal ?_
    refine c_seq ?_
    refine c_seq ?_
    refine c_region ?_
    refine wl (wl_val hl rfl trivial (r_move hl rfl) ?_)
    clear hl a; intro a hl
    refine w_nil ?_
    have hl2 := hl.add (t := 0) (hl.add (t := 2) (hl.add (t := 3) (hl.add (t := 16) (hl.nil) rfl) rfl) rfl) rfl; clear hl; have hl := hl2; clear hl2
    refine then_normal ?_
    refine wp_block ?_
    obtain ⟨KS0, hKS0, hk⟩ := (hl.add (t := 0) (hl.add (t := 2) (hl.add (t := 3) (hl.nil) rfl) rfl) rfl).name
    obtain ⟨HS0, hHS0, hh2⟩ := hh.nameT (A := [(k3, C (arrL 116 (stV g.ep (uptoF 0 (flK g.flr)) (upto 0 (fun _ => .slice none 0 0)) (fun _ => .slice none 0 0) (wfN g.tb 20))) 52)]) (U := (fam (fun _ => []) 0)) (keeps_cons (b := k3) (o' := C (arrL 116 (stV g.ep (uptoF 0 (flK g.flr)) (upto 0 (fun _ => .slice none 0 0)) (fun _ => .slice none 0 0) (wfN g.tb 20))) 52) (by repeat (first | exact find_head | apply find_tail | apply find_skip)) (by first | exact st_z0 | rfl) ((by rw [fam0]; repeat (first | exact keeps_nil | exact keeps_self | exact keeps_left | apply keeps_app | apply keeps_mv | apply keeps_skip))))
    refine c_loop (α := SZ) (fun z => 4 - z.i) (fun z a w => (SZ0 g z) ∧ Sl 40 ([(16, .int .i64 (z.i : Int))] ++ KS0) a ∧ Has _ w0 ([(k3, C (arrL 116 (stV g.ep (uptoF z.i (flK g.flr)) (upto z.i z.ev) (fun _ => .slice none 0 0) (wfN g.tb 20))) 52)] ++ (HS0 ++ (fam z.Ee z.i))) w) ⟨(fun _ => .slice none 0 0), fun _ => [], 0⟩ ⟨⟨Nat.zero_le _, fun c hc => absurd hc (Nat.not_lt_zero _)⟩, hl.addE (t := 16) (hk) rfl (by first | rfl), hh2⟩ ?_
    clear hk hh2 hl hh a w
    intro z a w hI
    obtain ⟨hZ, hl, hh⟩ := hI
    subst hKS0; subst hHS0
    simp only [List.cons_append, List.nil_append, List.append_nil, List.append_assoc] at hl hh
    have hzi := hZ.i
    refine c_seq ?_
    refine c_region ?_
    refine wl (wl_val hl rfl trivial (r_lss hl rfl rfl) ?_)
    clear hl a; intro a hl
    refine w_nil ?_
    have hl2 := hl.add (t := 0) (hl.add (t := 2) (hl.add (t := 3) (hl.add (t := 16) (hl.add (t := 17) (hl.nil) rfl) rfl) rfl) rfl) rfl; clear hl; have hl := hl2; clear hl2
    refine then_normal ?_
    refine c_seq ?_
    refine c_cond hl rfl ?_ ?_
    · intro hc0
      try simp only [decide_eq_true_eq, decide_eq_false_iff_not, Bool.not_eq_true', Bool.not_eq_false', Bool.not_eq_true, Bool.not_eq_false, Bool.and_eq_true, Bool.or_eq_true, Bool.and_eq_false_iff, Bool.or_eq_false_iff, Bool.not_not, ne_eq, Int.not_lt, Int.not_le, Decidable.not_not, beq_iff_eq, bne_iff_ne] at hc0
      refine wp_skip ?_
      refine then_normal ?_
      refine c_seq ?_
      refine wp_block ?_
      refine c_seq ?_
      refine c_region ?_
      refine wl (wl_val hl rfl trivial (r_move hl rfl) ?_)
      clear hl a; intro a hl
      refine wl (wl_val hl rfl trivial (r_assign hl rfl) ?_)
      clear hl a; intro a hl
      refine w_nil ?_
      have hl2 := hl.add (t := 0) (hl.add (t := 2) (hl.add (t := 3) (hl.add (t := 4) (hl.add (t := 16) (hl.nil) rfl) rfl) rfl) rfl) rfl; clear hl; have hl := hl2; clear hl2
      refine then_normal ?_
      refine c_region ?_
      refine wl (wl_val hl rfl trivial (r_move hl rfl) ?_)
      clear hl a; intro a hl
      refine wl (wl_val hl rfl trivial (r_move hl rfl) ?_)
      clear hl a; intro a hl
      refine wl (wl_val hl rfl trivial (r_move hl rfl) ?_)
      clear hl a; intro a hl
      refine wl (w_call hl hh rfl trivial rfl cal35 rfl (shardD_spec hR0 bd tT tf hL hq hG z.i (by omega)) (by repeat (first | exact keeps_nil | apply keeps_cons (by repeat (first | exact find_head | apply find_tail | apply find_skip)) (by first  | rfl) | exact keeps_self | exact keeps_left | apply keeps_app | apply keeps_mv | apply keeps_skip)) ⟨mem_keep hh hpre.1, heap_keep hh hpre.2⟩ ?_)
      clear hl hh a w; intro vc Fc a w hR hl hh
      obtain ⟨ve, rfl, hRe⟩ := hR
      try simp only [List.cons_append, List.nil_append, List.append_assoc, List.append_nil] at hh
      generalize Fc = X at hh hRe
      refine wl (wl_val hl rfl trivial (r_field hl rfl fld52_1) ?_)
      clear hl a; intro a hl
      refine wl (wl_val hl rfl trivial (r_indexA hl rfl rfl arr47 (by omega) (by omega) (by first | (simp only [Int.reduceToNat]; rfl) | exact toNat_add1 _ | exact toNat_add2 _ _ | exact toNat_emod _ _ | exact Int.toNat_natCast _ | rfl)) ?_)
      clear hl a; intro a hl
      refine wl (w_storeA hl hh trivial agg46 rfl rfl (by repeat (first | exact find_head | apply find_tail | apply find_skip)) (by first | rfl | (simp; done) | exact arrL_length _ _) (by first | (simp; done) | (simp; omega) | (rw [arrL_length]; omega)) (by first | rfl | (simp; done) | exact arrL_all (fun j => ite_one hRe.one rfl)) (by first | exact st_shard (by omega) | exact st_box (by omega) | (simp only [setL, List.getElem?_cons_zero, List.getElem?_cons_succ, Value.cells, List.take_zero, List.take_succ_cons, List.take_nil, List.drop_zero, List.drop_succ_cons, List.drop_nil, List.length_cons, List.length_nil, List.cons_append, List.nil_append, List.append_nil, Nat.zero_add, Nat.add_zero, Nat.reduceAdd, Nat.reduceBEq, Nat.reduceEqDiff, Nat.ble, BEq.rfl, Bool.and_true, Bool.and_self, cond_true, beq_self_eq_true]; rfl)) ?_)
      clear hh w; intro w hh
      refine w_nil ?_
      have hl2 := hl.add (t := 0) (hl.add (t := 2) (hl.add (t := 3) (hl.add (t := 16) (hl.nil) rfl) rfl) rfl) rfl; clear hl; have hl := hl2; clear hl2
      refine blk_normal ?_
      refine then_normal ?_
      refine c_region ?_
      first | refine wl (wl_val hl rfl trivial (r_add hl rfl rfl (by simp only [Fits]; omega)) ?_) | refine wl (wl_val hl rfl trivial (r_addW hl rfl rfl) ?_)
      clear hl a; intro a hl
      refine wl (wl_val hl rfl trivial (r_move hl rfl) ?_)
      clear hl a; intro a hl
      refine w_nil ?_
      have hl2 := hl.add (t := 0) (hl.add (t := 2) (hl.add (t := 3) (hl.add (t := 16) (hl.nil) rfl) rfl) rfl) rfl; clear hl; have hl := hl2; clear hl2
      refine then_normal ?_
      refine ⟨⟨updV z.ev z.i ve, updE z.Ee z.i X, z.i + 1⟩, (by simp only; omega), (hZ.next (by omega) hRe), hl.addE (t := 16) (hl.addE (t := 0) (hl.addE (t := 2) (hl.addE (t := 3) (hl.nil) rfl (by first | rfl | (congr 1; omega))) rfl (by first | rfl | (congr 1; omega))) rfl (by first | rfl | (congr 1; omega))) rfl (by first | rfl | (congr 1; omega)), (by dsimp only; rw [fam_snoc]; exact hh.keep (by repeat (first | exact keeps_nil | apply keeps_cons (by repeat (first | exact find_head | apply find_tail | apply find_skip)) (by first  | rfl) | exact keeps_self | exact keeps_left | apply keeps_app | apply keeps_mv | apply keeps_skip)))⟩
    · intro hc0
      try simp only [decide_eq_true_eq, decide_eq_false_iff_not, Bool.not_eq_true', Bool.not_eq_false', Bool.not_eq_true, Bool.not_eq_false, Bool.and_eq_true, Bool.or_eq_true, Bool.and_eq_false_iff, Bool.or_eq_false_iff, Bool.not_not, ne_eq, Int.not_lt, Int.not_le, Decidable.not_not, beq_iff_eq, bne_iff_ne] at hc0
      have hz4 : z.i = 4 := by omega
      rw [hz4, st_z1] at hh
      refine wp_exit ?_
      refine then_exit ?_
      refine then_exit ?_
      refine blk_exit ?_
      refine then_normal ?_
      refine c_seq ?_
      refine c_seq ?_
      refine c_region ?_
      refine wl (wl_val hl rfl trivial (r_move hl rfl) ?_)
      clear hl a; intro a hl
      refine w_nil ?_
      have hl2 := hl.add (t := 0) (hl.add (t := 2) (hl.add (t := 3) (hl.add (t := 26) (hl.nil) rfl) rfl) rfl) rfl; clear hl; have hl := hl2; clear hl2
      refine then_normal ?_
      refine wp_block ?_
      obtain ⟨KS1, hKS1, hk⟩ := (hl.add (t := 0) (hl.add (t := 2) (hl.add (t := 3) (hl.nil) rfl) rfl) rfl).name
      obtain ⟨HS1, hHS1, hh2⟩ := hh.nameT (A := [(k3, C (arrL 116 (stV g.ep (flK g.flr) z.ev (upto 0 (fun _ => .slice none 0 0)) (wfN g.tb 20))) 52)]) (U := (fam (fun _ => []) 0)) (keeps_cons (b := k3) (o' := C (arrL 116 (stV g.ep (flK g.flr) z.ev (upto 0 (fun _ => .slice none 0 0)) (wfN g.tb 20))) 52) (by repeat (first | exact find_head | apply find_tail | apply find_skip)) (by first | rfl) ((by rw [fam0]; repeat (first | exact keeps_nil | exact keeps_self | exact keeps_left | apply keeps_app | apply keeps_mv | apply keeps_skip))))
      refine c_loop (α := SZ) (fun y => 16 - y.i) (fun y a w => (SZ1 g y) ∧ Sl 40 ([(26, .int .i64 (y.i : Int))] ++ KS1) a ∧ Has _ w0 ([(k3, C (arrL 116 (stV g.ep (flK g.flr) z.ev (upto y.i y.ev) (wfN g.tb 20))) 52)] ++ (HS1 ++ (fam y.Ee y.i))) w) ⟨(fun _ => .slice none 0 0), fun _ => [], 0⟩ ⟨⟨Nat.zero_le _, fun c hc => absurd hc (Nat.not_lt_zero _)⟩, hl.addE (t := 26) (hk) rfl (by first | rfl), hh2⟩ ?_
      clear hk hh2 hl hh a w
      intro y a w hI
      obtain ⟨hY, hl, hh⟩ := hI
      subst hKS1; subst hHS1
      simp only [List.cons_append, List.nil_append, List.append_nil, List.append_assoc] at hl hh
      have hyi := hY.i
      refine c_seq ?_
      refine c_region ?_
      refine wl (wl_val hl rfl trivial (r_lss hl rfl rfl) ?_)
      clear hl a; intro a hl
      refine w_nil ?_
      have hl2 := hl.add (t := 0) (hl.add (t := 2) (hl.add (t := 3) (hl.add (t := 26) (hl.add (t := 27) (hl.nil) rfl) rfl) rfl) rfl) rfl; clear hl; have hl := hl2; clear hl2
      refine then_normal ?_
      refine c_seq ?_
      refine c_cond hl rfl ?_ ?_
      · intro hc1
        try simp only [decide_eq_true_eq, decide_eq_false_iff_not, Bool.not_eq_true', Bool.not_eq_false', Bool.not_eq_true, Bool.not_eq_false, Bool.and_eq_true, Bool.or_eq_true, Bool.and_eq_false_iff, Bool.or_eq_false_iff, Bool.not_not, ne_eq, Int.not_lt, Int.not_le, Decidable.not_not, beq_iff_eq, bne_iff_ne] at hc1
        refine wp_skip ?_
        refine then_normal ?_
        refine c_seq ?_
        refine wp_block ?_
        refine c_seq ?_
        refine c_region ?_
        refine wl (wl_val hl rfl trivial (r_move hl rfl) ?_)
        clear hl a; intro a hl
        refine wl (wl_val hl rfl trivial (r_assign hl rfl) ?_)
        clear hl a; intro a hl
        refine w_nil ?_
        have hl2 := hl.add (t := 0) (hl.add (t := 2) (hl.add (t := 3) (hl.add (t := 5) (hl.add (t := 26) (hl.nil) rfl) rfl) rfl) rfl) rfl; clear hl; have hl := hl2; clear hl2
        refine then_normal ?_
        refine c_region ?_
        refine wl (wl_val hl rfl trivial (r_move hl rfl) ?_)
        clear hl a; intro a hl
        refine wl (wl_val hl rfl trivial (r_move hl rfl) ?_)
        clear hl a; intro a hl
        refine wl (wl_val hl rfl trivial (r_nilCheck hl rfl) ?_)
        clear hl a; intro a hl
        refine wl (wl_val hl rfl trivial (r_field hl rfl fld65_1) ?_)
        clear hl a; intro a hl
        first | refine wl (w_load hl hh rfl trivial one25 rfl (by repeat (first | exact find_head | apply find_tail | apply find_skip)) (by first | exact md_p0 hD.p0 | rfl) ?_) | refine wl (w_loadR hl hh rfl trivial one25 rfl hmD (by simp) (md_p1 hD.p1) ?_)
        clear hl a; intro a hl
        refine wl (wl_val hl rfl trivial (r_move hl rfl) ?_)
        clear hl a; intro a hl
        refine wl (w_call hl hh rfl trivial rfl cal34 rfl (pending_spec hD.mc M.bm hG.b32 y.i (by omega)) (by repeat (first | exact keeps_nil | apply keeps_cons (by repeat (first | exact find_head | apply find_tail | apply find_skip)) (by first  | rfl) | exact keeps_self | exact keeps_left | apply keeps_app | apply keeps_mv | apply keeps_skip)) (mem_keep hh hmM) ?_)
        clear hl hh a w; intro vc Fc a w hR hl hh
        try simp only [List.cons_append, List.nil_append, List.append_assoc, List.append_nil] at hh
        have hRb := hR
        clear hR
        generalize Fc = X at hh hRb
        generalize vc = vb at hl hRb
        refine wl (wl_val hl rfl trivial (r_field hl rfl fld52_2) ?_)
        clear hl a; intro a hl
        refine wl (wl_val hl rfl trivial (r_indexA hl rfl rfl arr49 (by omega) (by omega) (by first | (simp only [Int.reduceToNat]; rfl) | exact toNat_add1 _ | exact toNat_add2 _ _ | exact toNat_emod _ _ | exact Int.toNat_natCast _ | rfl)) ?_)
        clear hl a; intro a hl
        refine wl (w_store hl hh trivial one48 rfl rfl (by repeat (first | exact find_head | apply find_tail | apply find_skip)) (by first | (simp; done) | (simp; omega) | (rw [arrL_length]; omega)) (by first | rfl | assumption | (apply Row.one; assumption)) (by first | exact st_shard (by omega) | exact st_box (by omega) | (simp only [setL, List.getElem?_cons_zero, List.getElem?_cons_succ, Value.cells, List.take_zero, List.take_succ_cons, List.take_nil, List.drop_zero, List.drop_succ_cons, List.drop_nil, List.length_cons, List.length_nil, List.cons_append, List.nil_append, List.append_nil, Nat.zero_add, Nat.add_zero, Nat.reduceAdd, Nat.reduceBEq, Nat.reduceEqDiff, Nat.ble, BEq.rfl, Bool.and_true, Bool.and_self, cond_true, beq_self_eq_true]; rfl)) ?_)
        clear hh w; intro w hh
        refine w_nil ?_
        have hl2 := hl.add (t := 0) (hl.add (t := 2) (hl.add (t := 3) (hl.add (t := 26) (hl.nil) rfl) rfl) rfl) rfl; clear hl; have hl := hl2; clear hl2
        refine blk_normal ?_
        refine then_normal ?_
        refine c_region ?_
        first | refine wl (wl_val hl rfl trivial (r_add hl rfl rfl (by simp only [Fits]; omega)) ?_) | refine wl (wl_val hl rfl trivial (r_addW hl rfl rfl) ?_)
        clear hl a; intro a hl
        refine wl (wl_val hl rfl trivial (r_move hl rfl) ?_)
        clear hl a; intro a hl
        refine w_nil ?_
        have hl2 := hl.add (t := 0) (hl.add (t := 2) (hl.add (t := 3) (hl.add (t := 26) (hl.nil) rfl) rfl) rfl) rfl; clear hl; have hl := hl2; clear hl2
        refine then_normal ?_
        refine ⟨⟨updV y.ev y.i vb, updE y.Ee y.i X, y.i + 1⟩, (by simp only; omega), (hY.next (by omega) hRb), hl.addE (t := 26) (hl.addE (t := 0) (hl.addE (t := 2) (hl.addE (t := 3) (hl.nil) rfl (by first | rfl | (congr 1; omega))) rfl (by first | rfl | (congr 1; omega))) rfl (by first | rfl | (congr 1; omega))) rfl (by first | rfl | (congr 1; omega)), (by dsimp only; rw [fam_snoc]; exact hh.keep (by repeat (first | exact keeps_nil | apply keeps_cons (by repeat (first | exact find_head | apply find_tail | apply find_skip)) (by first  | rfl) | exact keeps_self | exact keeps_left | apply keeps_app | apply keeps_mv | apply keeps_skip)))⟩
      · intro hc1
        try simp only [decide_eq_true_eq, decide_eq_false_iff_not, Bool.not_eq_true', Bool.not_eq_false', Bool.not_eq_true, Bool.not_eq_false, Bool.and_eq_true, Bool.or_eq_true, Bool.and_eq_false_iff, Bool.or_eq_false_iff, Bool.not_not, ne_eq, Int.not_lt, Int.not_le, Decidable.not_not, beq_iff_eq, bne_iff_ne] at hc1
        have hy16 : y.i = 16 := by omega
        rw [hy16, st_z2] at hh
        have hZr := hZ.r; have hYr := hY.r
        rw [hz4] at hZr
        rw [hy16] at hYr
        refine wp_exit ?_
        refine then_exit ?_
        refine then_exit ?_
        refine blk_exit ?_
        refine then_normal ?_
        refine c_seq ?_
        refine c_region ?_
        refine wl (w_loadA hl hh rfl trivial agg52 rfl (by repeat (first | exact find_head | apply find_tail | apply find_skip)) (by exact arr_whole116 _) (by exact arrL_length _ _) ?_)
        clear hl a; intro a hl
        refine wl (w_storeA hl hh trivial agg52 rfl rfl (by repeat (first | exact find_head | apply find_tail | apply find_skip)) (by exact arrL_length _ _) (by first | exact Nat.le_of_eq (arrL_length _ _).symm | (rw [arrL_length]; exact Nat.le_refl _)) (by first | exact stV_one (fun _ => rfl) (fun _ => rfl) | exact stV_one2 (fun c hc => (hZr c hc).one) (fun b hb => (hYr b hb).one)) (by exact setL_whole (by rw [arrL_length, arrL_length])) ?_)
        clear hh w; intro w hh
        refine w_nil ?_
        have hl2 := hl.add (t := 2) (hl.nil) rfl; clear hl; have hl := hl2; clear hl2
        refine then_normal ?_
        refine wp_ret ?_
        refine f_retC (F' := (fam z.Ee 4 ++ fam y.Ee 16)) hl hh rfl rfl agg52 (by repeat (first | exact find_head | apply find_tail | apply find_skip)) (by first | rfl | exact arrL_length _ _ | (simp; done)) (by repeat (first | exact keeps_nil | apply keeps_cons (by repeat (first | exact find_head | apply find_tail | apply find_skip)) (by first  | rfl) | exact keeps_self | exact keeps_left | apply keeps_app | apply keeps_mv | apply keeps_skip)) ?_
        exact ⟨z.ev, y.ev, z.Ee, y.Ee, rfl, ⟨hZr, hYr⟩, rfl⟩
  ·
    try clear hM
    refine id (w_alloc hl hh rfl trivial zero52 rfl ?_)
    clear hl hh a w; intro k3 a w hl hh
    have hM : Mem [(bd, C (arrL 22 M.fd) 65)] w := (by (repeat (first | exact Mem.nil | refine Mem.consR hh (by assumption) (by simp) ?_ | refine Mem.cons hh.mem (by (repeat (first | exact find_head | apply find_tail | apply find_skip)); done) ?_ | fail)); done)
    refine d_step (fun _ => hM) ?_
    refine d_one (i := 8) (by kernel_rfl) rfl ?_
    try clear hM
    refine id (w_call hl hh rfl trivial rfl cal27 rfl (waitsFor_spec hD.tb M.bt hG.ti) (by repeat (first | exact keeps_nil | apply keeps_cons (by repeat (first | exact find_head | apply find_tail | apply find_skip)) (by first  | rfl) | exact keeps_self | exact keeps_left | apply keeps_app | apply keeps_mv | apply keeps_skip)) (mem_keep hh hmT) ?_)
    clear hl hh a w; intro vc Fc a w hR hl hh
    obtain ⟨rfl, rfl⟩ := hR
    try simp only [List.cons_append, List.nil_append, List.append_assoc, List.append_nil] at hh
    have hM : Mem [(bd, C (arrL 22 M.fd) 65)] w := (by (repeat (first | exact Mem.nil | refine Mem.consR hh (by assumption) (by simp) ?_ | refine Mem.cons hh.mem (by (repeat (first | exact find_head | apply find_tail | apply find_skip)); done) ?_ | fail)); done)
    refine d_step (fun _ => hM) ?_
    refine d_take (i := 9) hl rfl (by kernel_rfl) (by kernel_rfl) (by kernel_rfl) (by kernel_rfl) (by kernel_rfl) rfl trivial (fun _ _ _ h => h) hM (fun w hC => r_build hl rfl zero52 bld52 (fill75 rfl rfl rfl rfl)) rfl ?_
    clear hl a; intro a hl
    refine d_one (i := 11) (by kernel_rfl) rfl ?_
    try clear hM
    refine id (w_storeA hl hh trivial agg52 rfl rfl (by repeat (first | exact find_head | apply find_tail | apply find_skip)) (by exact arrL_length _ _) (by first | exact Nat.le_of_eq (arrL_length _ _).symm | (rw [arrL_length]; exact Nat.le_refl _)) (by first | exact stV_one (fun _ => rfl) (fun _ => rfl) | exact stV_one2 (fun c hc => (hZr c hc).one) (fun b hb => (hYr b hb).one)) (by exact setL_whole (by rw [arrL_length, arrL_length])) ?_)
    clear hh w; intro w hh
    refine d_step (fun h => absurd h (by decide)) ?_
    refine d_done (by kernel_rfl) ?_
    try clear hM
    have hl2 := hl.add (t := 0) (hl.add (t := 2) (hl.add (t := 3) (hl.nil) rfl) rfl) rfl; clear hl; have hl := hl2; clear hl2
    refine then_normal ?_
    refine c_seq ?_
    refine c_seq ?_
    refine c_region ?_
    refine wl (wl_val hl rfl trivial (r_move hl rfl) ?_)
    clear hl a; intro a hl
    refine w_nil ?_
    have hl2 := hl.add (t := 0) (hl.add (t := 2) (hl.add (t := 3) (hl.add (t := 16) (hl.nil) rfl) rfl) rfl) rfl; clear hl; have hl := hl2; clear hl2
    refine then_normal ?_
    refine wp_block ?_
    obtain ⟨KS0, hKS0, hk⟩ := (hl.add (t := 0) (hl.add (t := 2) (hl.add (t := 3) (hl.nil) rfl) rfl) rfl).name
    obtain ⟨HS0, hHS0, hh2⟩ := hh.nameT (A := [(k3, C (arrL 116 (stV g.ep (uptoF 0 (flK g.flr)) (upto 0 (fun _ => .slice none 0 0)) (fun _ => .slice none 0 0) (wfN g.tb 20))) 52)]) (U := (fam (fun _ => []) 0)) (keeps_cons (b := k3) (o' := C (arrL 116 (stV g.ep (uptoF 0 (flK g.flr)) (upto 0 (fun _ => .slice none 0 0)) (fun _ => .slice none 0 0) (wfN g.tb 20))) 52) (by repeat (first | exact find_head | apply find_tail | apply find_skip)) (by first | exact st_z0 | rfl) ((by rw [fam0]; repeat (first | exact keeps_nil | exact keeps_self | exact keeps_left | apply keeps_app | apply keeps_mv | apply keeps_skip))))
    refine c_loop (α := SZ) (fun z => 4 - z.i) (fun z a w => (SZ0 g z) ∧ Sl 40 ([(16, .int .i64 (z.i : Int))] ++ KS0) a ∧ Has _ w0 ([(k3, C (arrL 116 (stV g.ep (uptoF z.i (flK g.flr)) (upto z.i z.ev) (fun _ => .slice none 0 0) (wfN g.tb 20))) 52)] ++ (HS0 ++ (fam z.Ee z.i))) w) ⟨(fun _ => .slice none 0 0), fun _ => [], 0⟩ ⟨⟨Nat.zero_le _, fun c hc => absurd hc (Nat.not_lt_zero _)⟩, hl.addE (t := 16) (hk) rfl (by first | rfl), hh2⟩ ?_
    clear hk hh2 hl hh a w
    intro z a w hI
    obtain ⟨hZ, hl, hh⟩ := hI
    subst hKS0; subst hHS0
    simp only [List.cons_append, List.nil_append, List.append_nil, List.append_assoc] at hl hh
    have hzi := hZ.i
    refine c_seq ?_
    refine c_region ?_
    refine wl (wl_val hl rfl trivial (r_lss hl rfl rfl) ?_)
    clear hl a; intro a hl
    refine w_nil ?_
    have hl2 := hl.add (t := 0) (hl.add (t := 2) (hl.add (t := 3) (hl.add (t := 16) (hl.add (t := 17) (hl.nil) rfl) rfl) rfl) rfl) rfl; clear hl; have hl := hl2; clear hl2
    refine then_normal ?_
    refine c_seq ?_
    refine c_cond hl rfl ?_ ?_
    · intro hc0
      try simp only [decide_eq_true_eq, decide_eq_false_iff_not, Bool.not_eq_true', Bool.not_eq_false', Bool.not_eq_true, Bool.not_eq_false, Bool.and_eq_true, Bool.or_eq_true, Bool.and_eq_false_iff, Bool.or_eq_false_iff, Bool.not_not, ne_eq, Int.not_lt, Int.not_le, Decidable.not_not, beq_iff_eq, bne_iff_ne] at hc0
      refine wp_skip ?_
      refine then_normal ?_
      refine c_seq ?_
      refine wp_block ?_
      refine c_seq ?_
      refine c_region ?_
      refine wl (wl_val hl rfl trivial (r_move hl rfl) ?_)
      clear hl a; intro a hl
      refine wl (wl_val hl rfl trivial (r_assign hl rfl) ?_)
      clear hl a; intro a hl
      refine w_nil ?_
      have hl2 := hl.add (t := 0) (hl.add (t := 2) (hl.add (t := 3) (hl.add (t := 4) (hl.add (t := 16) (hl.nil) rfl) rfl) rfl) rfl) rfl; clear hl; have hl := hl2; clear hl2
      refine then_normal ?_
      refine c_region ?_
      refine wl (wl_val hl rfl trivial (r_move hl rfl) ?_)
      clear hl a; intro a hl
      refine wl (wl_val hl rfl trivial (r_move hl rfl) ?_)
      clear hl a; intro a hl
      refine wl (wl_val hl rfl trivial (r_move hl rfl) ?_)
      clear hl a; intro a hl
      refine wl (w_call hl hh rfl trivial rfl cal35 rfl (shardD_spec hR0 bd tT tf hL hq hG z.i (by omega)) (by repeat (first | exact keeps_nil | apply keeps_cons (by repeat (first | exact find_head | apply find_tail | apply find_skip)) (by first  | rfl) | exact keeps_self | exact keeps_left | apply keeps_app | apply keeps_mv | apply keeps_skip)) ⟨mem_keep hh hpre.1, heap_keep hh hpre.2⟩ ?_)
      clear hl hh a w; intro vc Fc a w hR hl hh
      obtain ⟨ve, rfl, hRe⟩ := hR
      try simp only [List.cons_append, List.nil_append, List.append_assoc, List.append_nil] at hh
      generalize Fc = X at hh hRe
      refine wl (wl_val hl rfl trivial (r_field hl rfl fld52_1) ?_)
      clear hl a; intro a hl
      refine wl (wl_val hl rfl trivial (r_indexA hl rfl rfl arr47 (by omega) (by omega) (by first | (simp only [Int.reduceToNat]; rfl) | exact toNat_add1 _ | exact toNat_add2 _ _ | exact toNat_emod _ _ | exact Int.toNat_natCast _ | rfl)) ?_)
      clear hl a; intro a hl
      refine wl (w_storeA hl hh trivial agg46 rfl rfl (by repeat (first | exact find_head | apply find_tail | apply find_skip)) (by first | rfl | (simp; done) | exact arrL_length _ _) (by first | (simp; done) | (simp; omega) | (rw [arrL_length]; omega)) (by first | rfl | (simp; done) | exact arrL_all (fun j => ite_one hRe.one rfl)) (by first | exact st_shard (by omega) | exact st_box (by omega) | (simp only [setL, List.getElem?_cons_zero, List.getElem?_cons_succ, Value.cells, List.take_zero, List.take_succ_cons, List.take_nil, List.drop_zero, List.drop_succ_cons, List.drop_nil, List.length_cons, List.length_nil, List.cons_append, List.nil_append, List.append_nil, Nat.zero_add, Nat.add_zero, Nat.reduceAdd, Nat.reduceBEq, Nat.reduceEqDiff, Nat.ble, BEq.rfl, Bool.and_true, Bool.and_self, cond_true, beq_self_eq_true]; rfl)) ?_)
      clear hh w; intro w hh
      refine w_nil ?_
      have hl2 := hl.add (t := 0) (hl.add (t := 2) (hl.add (t := 3) (hl.add (t := 16) (hl.nil) rfl) rfl) rfl) rfl; clear hl; have hl := hl2; clear hl2
      refine blk_normal ?_
      refine then_normal ?_
      refine c_region ?_
      first | refine wl (wl_val hl rfl trivial (r_add hl rfl rfl (by simp only [Fits]; omega)) ?_) | refine wl (wl_val hl rfl trivial (r_addW hl rfl rfl) ?_)
      clear hl a; intro a hl
      refine wl (wl_val hl rfl trivial (r_move hl rfl) ?_)
      clear hl a; intro a hl
      refine w_nil ?_
      have hl2 := hl.add (t := 0) (hl.add (t := 2) (hl.add (t := 3) (hl.add (t := 16) (hl.nil) rfl) rfl) rfl) rfl; clear hl; have hl := hl2; clear hl2
      refine then_normal ?_
      refine ⟨⟨updV z.ev z.i ve, updE z.Ee z.i X, z.i + 1⟩, (by simp only; omega), (hZ.next (by omega) hRe), hl.addE (t := 16) (hl.addE (t := 0) (hl.addE (t := 2) (hl.addE (t := 3) (hl.nil) rfl (by first | rfl | (congr 1; omega))) rfl (by first | rfl | (congr 1; omega))) rfl (by first | rfl | (congr 1; omega))) rfl (by first | rfl | (congr 1; omega)), (by dsimp only; rw [fam_snoc]; exact hh.keep (by repeat (first | exact keeps_nil | apply keeps_cons (by repeat (first | exact find_head | apply find_tail | apply find_skip)) (by first  | rfl) | exact keeps_self | exact keeps_left | apply keeps_app | apply keeps_mv | apply keeps_skip)))⟩
    · intro hc0
      try simp only [decide_eq_true_eq, decide_eq_false_iff_not, Bool.not_eq_true', Bool.not_eq_false', Bool.not_eq_true, Bool.not_eq_false, Bool.and_eq_true, Bool.or_eq_true, Bool.and_eq_false_iff, Bool.or_eq_false_iff, Bool.not_not, ne_eq, Int.not_lt, Int.not_le, Decidable.not_not, beq_iff_eq, bne_iff_ne] at hc0
      have hz4 : z.i = 4 := by omega
      rw [hz4, st_z1] at hh
      refine wp_exit ?_
      refine then_exit ?_
      refine then_exit ?_
      refine blk_exit ?_
      refine then_normal ?_
      refine c_seq ?_
      refine c_seq ?_
      refine c_region ?_
      refine wl (wl_val hl rfl trivial (r_move hl rfl) ?_)
      clear hl a; intro a hl
      refine w_nil ?_
      have hl2 := hl.add (t := 0) (hl.add (t := 2) (hl.add (t := 3) (hl.add (t := 26) (hl.nil) rfl) rfl) rfl) rfl; clear hl; have hl := hl2; clear hl2
      refine then_normal ?_
      refine wp_block ?_
      obtain ⟨KS1, hKS1, hk⟩ := (hl.add (t := 0) (hl.add (t := 2) (hl.add (t := 3) (hl.nil) rfl) rfl) rfl).name
      obtain ⟨HS1, hHS1, hh2⟩ := hh.nameT (A := [(k3, C (arrL 116 (stV g.ep (flK g.flr) z.ev (upto 0 (fun _ => .slice none 0 0)) (wfN g.tb 20))) 52)]) (U := (fam (fun _ => []) 0)) (keeps_cons (b := k3) (o' := C (arrL 116 (stV g.ep (flK g.flr) z.ev (upto 0 (fun _ => .slice none 0 0)) (wfN g.tb 20))) 52) (by repeat (first | exact find_head | apply find_tail | apply find_skip)) (by first | rfl) ((by rw [fam0]; repeat (first | exact keeps_nil | exact keeps_self | exact keeps_left | apply keeps_app | apply keeps_mv | apply keeps_skip))))
      refine c_loop (α := SZ) (fun y => 16 - y.i) (fun y a w => (SZ1 g y) ∧ Sl 40 ([(26, .int .i64 (y.i : Int))] ++ KS1) a ∧ Has _ w0 ([(k3, C (arrL 116 (stV g.ep (flK g.flr) z.ev (upto y.i y.ev) (wfN g.tb 20))) 52)] ++ (HS1 ++ (fam y.Ee y.i))) w) ⟨(fun _ => .slice none 0 0), fun _ => [], 0⟩ ⟨⟨Nat.zero_le _, fun c hc => absurd hc (Nat.not_lt_zero _)⟩, hl.addE (t := 26) (hk) rfl (by first | rfl), hh2⟩ ?_
      clear hk hh2 hl hh a w
      intro y a w hI
      obtain ⟨hY, hl, hh⟩ := hI
      subst hKS1; subst hHS1
      simp only [List.cons_append, List.nil_append, List.append_nil, List.append_assoc] at hl hh
      have hyi := hY.i
      refine c_seq ?_
      refine c_region ?_
      refine wl (wl_val hl rfl trivial (r_lss hl rfl rfl) ?_)
      clear hl a; intro a hl
      refine w_nil ?_
      have hl2 := hl.add (t := 0) (hl.add (t := 2) (hl.add (t := 3) (hl.add (t := 26) (hl.add (t := 27) (hl.nil) rfl) rfl) rfl) rfl) rfl; clear hl; have hl := hl2; clear hl2
      refine then_normal ?_
      refine c_seq ?_
      refine c_cond hl rfl ?_ ?_
      · intro hc1
        try simp only [decide_eq_true_eq, decide_eq_false_iff_not, Bool.not_eq_true', Bool.not_eq_false', Bool.not_eq_true, Bool.not_eq_false, Bool.and_eq_true, Bool.or_eq_true, Bool.and_eq_false_iff, Bool.or_eq_false_iff, Bool.not_not, ne_eq, Int.not_lt, Int.not_le, Decidable.not_not, beq_iff_eq, bne_iff_ne] at hc1
        refine wp_skip ?_
        refine then_normal ?_
        refine c_seq ?_
        refine wp_block ?_
        refine c_seq ?_
        refine c_region ?_
        refine wl (wl_val hl rfl trivial (r_move hl rfl) ?_)
        clear hl a; intro a hl
        refine wl (wl_val hl rfl trivial (r_assign hl rfl) ?_)
        clear hl a; intro a hl
        refine w_nil ?_
        have hl2 := hl.add (t := 0) (hl.add (t := 2) (hl.add (t := 3) (hl.add (t := 5) (hl.add (t := 26) (hl.nil) rfl) rfl) rfl) rfl) rfl; clear hl; have hl := hl2; clear hl2
        refine then_normal ?_
        refine c_region ?_
        refine wl (wl_val hl rfl trivial (r_move hl rfl) ?_)
        clear hl a; intro a hl
        refine wl (wl_val hl rfl trivial (r_move hl rfl) ?_)
        clear hl a; intro a hl
        refine wl (wl_val hl rfl trivial (r_nilCheck hl rfl) ?_)
        clear hl a; intro a hl
        refine wl (wl_val hl rfl trivial (r_field hl rfl fld65_1) ?_)
        clear hl a; intro a hl
        first | refine wl (w_load hl hh rfl trivial one25 rfl (by repeat (first | exact find_head | apply find_tail | apply find_skip)) (by first | exact md_p0 hD.p0 | rfl) ?_) | refine wl (w_loadR hl hh rfl trivial one25 rfl hmD (by simp) (md_p1 hD.p1) ?_)
        clear hl a; intro a hl
        refine wl (wl_val hl rfl trivial (r_move hl rfl) ?_)
        clear hl a; intro a hl
        refine wl (w_call hl hh rfl trivial rfl cal34 rfl (pending_spec hD.mc M.bm hG.b32 y.i (by omega)) (by repeat (first | exact keeps_nil | apply keeps_cons (by repeat (first | exact find_head | apply find_tail | apply find_skip)) (by first  | rfl) | exact keeps_self | exact keeps_left | apply keeps_app | apply keeps_mv | apply keeps_skip)) (mem_keep hh hmM) ?_)
        clear hl hh a w; intro vc Fc a w hR hl hh
        try simp only [List.cons_append, List.nil_append, List.append_assoc, List.append_nil] at hh
        have hRb := hR
        clear hR
        generalize Fc = X at hh hRb
        generalize vc = vb at hl hRb
        refine wl (wl_val hl rfl trivial (r_field hl rfl fld52_2) ?_)
        clear hl a; intro a hl
        refine wl (wl_val hl rfl trivial (r_indexA hl rfl rfl arr49 (by omega) (by omega) (by first | (simp only [Int.reduceToNat]; rfl) | exact toNat_add1 _ | exact toNat_add2 _ _ | exact toNat_emod _ _ | exact Int.toNat_natCast _ | rfl)) ?_)
        clear hl a; intro a hl
        refine wl (w_store hl hh trivial one48 rfl rfl (by repeat (first | exact find_head | apply find_tail | apply find_skip)) (by first | (simp; done) | (simp; omega) | (rw [arrL_length]; omega)) (by first | rfl | assumption | (apply Row.one; assumption)) (by first | exact st_shard (by omega) | exact st_box (by omega) | (simp only [setL, List.getElem?_cons_zero, List.getElem?_cons_succ, Value.cells, List.take_zero, List.take_succ_cons, List.take_nil, List.drop_zero, List.drop_succ_cons, List.drop_nil, List.length_cons, List.length_nil, List.cons_append, List.nil_append, List.append_nil, Nat.zero_add, Nat.add_zero, Nat.reduceAdd, Nat.reduceBEq, Nat.reduceEqDiff, Nat.ble, BEq.rfl, Bool.and_true, Bool.and_self, cond_true, beq_self_eq_true]; rfl)) ?_)
        clear hh w; intro w hh
        refine w_nil ?_
        have hl2 := hl.add (t := 0) (hl.add (t := 2) (hl.add (t := 3) (hl.add (t := 26) (hl.nil) rfl) rfl) rfl) rfl; clear hl; have hl := hl2; clear hl2
        refine blk_normal ?_
        refine then_normal ?_
        refine c_region ?_
        first | refine wl (wl_val hl rfl trivial (r_add hl rfl rfl (by simp only [Fits]; omega)) ?_) | refine wl (wl_val hl rfl trivial (r_addW hl rfl rfl) ?_)
        clear hl a; intro a hl
        refine wl (wl_val hl rfl trivial (r_move hl rfl) ?_)
        clear hl a; intro a hl
        refine w_nil ?_
        have hl2 := hl.add (t := 0) (hl.add (t := 2) (hl.add (t := 3) (hl.add (t := 26) (hl.nil) rfl) rfl) rfl) rfl; clear hl; have hl := hl2; clear hl2
        refine then_normal ?_
        refine ⟨⟨updV y.ev y.i vb, updE y.Ee y.i X, y.i + 1⟩, (by simp only; omega), (hY.next (by omega) hRb), hl.addE (t := 26) (hl.addE (t := 0) (hl.addE (t := 2) (hl.addE (t := 3) (hl.nil) rfl (by first | rfl | (congr 1; omega))) rfl (by first | rfl | (congr 1; omega))) rfl (by first | rfl | (congr 1; omega))) rfl (by first | rfl | (congr 1; omega)), (by dsimp only; rw [fam_snoc]; exact hh.keep (by repeat (first | exact keeps_nil | apply keeps_cons (by repeat (first | exact find_head | apply find_tail | apply find_skip)) (by first  | rfl) | exact keeps_self | exact keeps_left | apply keeps_app | apply keeps_mv | apply keeps_skip)))⟩
      · intro hc1
        try simp only [decide_eq_true_eq, decide_eq_false_iff_not, Bool.not_eq_true', Bool.not_eq_false', Bool.not_eq_true, Bool.not_eq_false, Bool.and_eq_true, Bool.or_eq_true, Bool.and_eq_false_iff, Bool.or_eq_false_iff, Bool.not_not, ne_eq, Int.not_lt, Int.not_le, Decidable.not_not, beq_iff_eq, bne_iff_ne] at hc1
        have hy16 : y.i = 16 := by omega
        rw [hy16, st_z2] at hh
        have hZr := hZ.r; have hYr := hY.r
        rw [hz4] at hZr
        rw [hy16] at hYr
        refine wp_exit ?_
        refine then_exit ?_
        refine then_exit ?_
        refine blk_exit ?_
        refine then_normal ?_
        refine c_seq ?_
        refine c_region ?_
        refine wl (w_loadA hl hh rfl trivial agg52 rfl (by repeat (first | exact find_head | apply find_tail | apply find_skip)) (by exact arr_whole116 _) (by exact arrL_length _ _) ?_)
        clear hl a; intro a hl
        refine wl (w_storeA hl hh trivial agg52 rfl rfl (by repeat (first | exact find_head | apply find_tail | apply find_skip)) (by exact arrL_length _ _) (by first | exact Nat.le_of_eq (arrL_length _ _).symm | (rw [arrL_length]; exact Nat.le_refl _)) (by first | exact stV_one (fun _ => rfl) (fun _ => rfl) | exact stV_one2 (fun c hc => (hZr c hc).one) (fun b hb => (hYr b hb).one)) (by exact setL_whole (by rw [arrL_length, arrL_length])) ?_)
        clear hh w; intro w hh
        refine w_nil ?_
        have hl2 := hl.add (t := 2) (hl.nil) rfl; clear hl; have hl := hl2; clear hl2
        refine then_normal ?_
        refine wp_ret ?_
        refine f_retC (F' := (fam z.Ee 4 ++ fam y.Ee 16)) hl hh rfl rfl agg52 (by repeat (first | exact find_head | apply find_tail | apply find_skip)) (by first | rfl | exact arrL_length _ _ | (simp; done)) (by repeat (first | exact keeps_nil | apply keeps_cons (by repeat (first | exact find_head | apply find_tail | apply find_skip)) (by first  | rfl) | exact keeps_self | exact keeps_left | apply keeps_app | apply keeps_mv | apply keeps_skip)) ?_
        exact ⟨z.ev, y.ev, z.Ee, y.Ee, rfl, ⟨hZr, hYr⟩, rfl⟩
end Go.Proofs.Qxb6500911aGreatDoor

import Derived.Test.Qxb6500908aGreatV12
namespace Go.Proofs.Qxb6500908aGreat
open Go.Eng
set_option linter.unusedVariables false
set_option linter.unusedSimpArgs false
theorem cal70 : callable Tryz.prog 70 = true := by kernel_rfl
theorem slc139 : slcOk Tryz.prog 139 12 = true := by kernel_rfl
theorem cal71 : callable Tryz.prog 71 = true := by kernel_rfl
attribute [local irreducible] NtV.c OwD.E

set_option maxHeartbeats 4000000 in
theorem apply_spec (Z : List (Nat × Obj)) (n : NtV) (hn : n.ok Z) (id : Int) (cs : List Ch) (hcs : ∀ c, c ∈ cs → c.dom) (p : Option Addr) (c : Nat) (E : List (Nat × Obj)) (hR : Row (.slice p cs.length c) cs.length (fl Ch.vals cs) 12 162 E) (hl9 : cs.length ≤ 1000) : SpK Tryz.prog 66 #[.agg ⟨n.c⟩, .agg ⟨[.int .u32 id, .slice p cs.length c]⟩] (fun w => Mem Z w ∧ Mem E w) [] (fun v F' => (apP n.pl cs = none ∧ v = .tuple #[.agg ⟨n.c⟩, .bool false] ∧ F' = []) ∨ ∃ n' : NtV, apP n.pl cs = some n'.pl ∧ n'.ok F' ∧ v = .tuple #[.agg ⟨n'.c⟩, .bool true]) := by
  refine f_enter (args := [.agg ⟨n.c⟩, .agg ⟨[.int .u32 id, .slice p cs.length c]⟩]) Tryz.func66 rfl Tryz.ntmps66 rfl ?_
  intro w0 w a hpre hl hh
  have hnl := NtV.len hn
  simp only [slotsFrom, Nat.reduceAdd] at hl
  refine c_seq ?_
  refine c_region ?_
  refine wl (w_box hl hh rfl trivial rfl rfl ?_)
  clear hl hh a w; intro k2 a w hl hh
  refine wl (w_box hl hh rfl trivial rfl rfl ?_)
  clear hl hh a w; intro k3 a w hl hh
  refine wl (w_alloc hl hh rfl trivial zero66 rfl ?_)
  clear hl hh a w; intro k4 a w hl hh
  refine wl (wl_val hl rfl trivial (r_assign hl rfl) ?_)
  clear hl a; intro a hl
  refine w_nil ?_
  have hl2 := hl.add (t := 2) (hl.add (t := 3) (hl.add (t := 4) (hl.nil) rfl) rfl) rfl; clear hl; have hl := hl2; clear hl2
  refine then_normal ?_
  refine c_seq ?_
  refine c_region ?_
  first | refine wl (w_loadA hl hh rfl trivial agg66 rfl (by repeat (first | exact find_head | apply find_tail | apply find_skip)) (by first | exact NtV.whole hn | exact hI.D.whole) (by first | exact hnl | exact hD9.len | exact hI.D.len) ?_) | refine wl (w_loadRA hl hh rfl trivial agg66 rfl hm1 (by simp) hd1 rfl ?_)
  clear hl a; intro a hl
  refine wl (w_call hl hh rfl trivial rfl cal70 rfl (clone_spec Z n hn) (by repeat (first | exact keeps_nil | apply keeps_cons (by repeat (first | exact find_head | apply find_tail | apply find_skip)) (by first  | rfl) | exact keeps_self | exact keeps_left | apply keeps_app | apply keeps_mv | apply keeps_skip)) (mem_keep hh hpre.1) ?_)
  clear hl hh a w; intro vc Fc a w hR hl hh
  obtain ⟨os, hol, hoo, hop, rfl, rfl⟩ := hR
  try simp only [List.cons_append, List.nil_append, List.append_assoc, List.append_nil] at hh
  have hD9 : NtD ⟨os.map OwD.d, n.ln⟩ := ⟨by simp only [List.length_map]; exact hol, hn.ll, hn.l⟩
  replace hh := hh.comm
  simp only [List.cons_append, List.nil_append, List.append_nil, List.append_assoc] at hh
  refine wl (w_alloc hl hh rfl trivial zero66 rfl ?_)
  clear hl hh a w; intro k6 a w hl hh
  refine wl (w_storeA hl hh trivial agg66 rfl rfl (by repeat (first | exact find_head | apply find_tail | apply find_skip)) (by first | exact hnl | exact hD9.len | exact hI.D.len) (by first | exact Nat.le_refl 64) (by exact NtV.one) (by first | exact setL_all (show 64 = _ from hD9.len.symm) | exact setL_all (show 64 = _ from hnl.symm) | exact setL_all (show 64 = _ from hI.D.len.symm)) ?_)
  clear hh w; intro w hh
  refine w_nil ?_
  have hl2 := hl.add (t := 2) (hl.add (t := 3) (hl.add (t := 4) (hl.add (t := 6) (hl.nil) rfl) rfl) rfl) rfl; clear hl; have hl := hl2; clear hl2
  refine then_normal ?_
  refine c_seq ?_
  refine c_seq ?_
  refine c_region ?_
  refine wl (wl_val hl rfl trivial (r_field hl rfl fld141_1) ?_)
  clear hl a; intro a hl
  refine wl (w_load hl hh rfl trivial one139 rfl (by repeat (first | exact find_head | apply find_tail | apply find_skip)) (by first | rfl) ?_)
  clear hl a; intro a hl
  refine wl (wl_val hl rfl trivial (r_lenS hl rfl slc139) ?_)
  clear hl a; intro a hl
  refine wl (wl_val hl rfl trivial (r_move hl rfl) ?_)
  clear hl a; intro a hl
  refine w_nil ?_
  have hl2 := hl.add (t := 2) (hl.add (t := 4) (hl.add (t := 6) (hl.add (t := 12) (hl.add (t := 13) (hl.add (t := 14) (hl.nil) rfl) rfl) rfl) rfl) rfl) rfl; clear hl; have hl := hl2; clear hl2
  refine then_normal ?_
  refine wp_block ?_
  obtain ⟨KS0, hKS0, hk⟩ := (hl.add (t := 2) (hl.add (t := 4) (hl.add (t := 6) (hl.add (t := 12) (hl.add (t := 13) (hl.nil) rfl) rfl) rfl) rfl) rfl).name
  obtain ⟨HS0, hHS0, hh2⟩ := hh.nameT (A := [(k6, C (NtV.c ⟨os.map OwD.d, n.ln⟩) 66)]) (U := (os.flatMap OwD.E)) (keeps_cons (b := k6) (o' := C (NtV.c ⟨os.map OwD.d, n.ln⟩) 66) (by repeat (first | exact find_head | apply find_tail | apply find_skip)) (by first | rfl) ((by repeat (first | exact keeps_nil | exact keeps_self | exact keeps_left | apply keeps_app | apply keeps_mv | apply keeps_skip))))
  refine c_loop (α := ApS) (fun s => cs.length - s.i) (fun s a w => (ApI n.pl cs s) ∧ Sl 24 ([(14, .int .i64 (s.i : Int))] ++ KS0) a ∧ Has _ w0 ([(k6, C s.n.c 66)] ++ (HS0 ++ (s.os.flatMap OwD.E))) w) ⟨0, os, n.ln⟩ ⟨⟨Nat.zero_le _, hol, hn.ll, hn.l, hoo, by show apP n.pl cs = apP (NtV.pl ⟨os.map OwD.d, n.ln⟩) cs; congr 1; unfold NtV.pl; simp only [List.map_map]; rw [← hop]; rfl⟩, hl.addE (t := 14) (hk) rfl (by first | rfl), hh2⟩ ?_
  clear hk hh2 hl hh a w
  intro s a w hI
  obtain ⟨hI, hl, hh⟩ := hI
  subst hKS0; subst hHS0
  simp only [List.cons_append, List.nil_append, List.append_nil, List.append_assoc] at hl hh
  have hIi := hI.i
  refine c_seq ?_
  refine c_region ?_
  refine wl (wl_val hl rfl trivial (r_lss hl rfl rfl) ?_)
  clear hl a; intro a hl
  refine w_nil ?_
  have hl2 := hl.add (t := 2) (hl.add (t := 4) (hl.add (t := 6) (hl.add (t := 12) (hl.add (t := 13) (hl.add (t := 14) (hl.add (t := 15) (hl.nil) rfl) rfl) rfl) rfl) rfl) rfl) rfl; clear hl; have hl := hl2; clear hl2
  refine then_normal ?_
  refine c_seq ?_
  refine c_cond hl rfl ?_ ?_
  · intro hc0
    try simp only [decide_eq_true_eq, decide_eq_false_iff_not, Bool.not_eq_true', Bool.not_eq_false', Bool.not_eq_true, Bool.not_eq_false, Bool.and_eq_true, Bool.or_eq_true, Bool.and_eq_false_iff, Bool.or_eq_false_iff, Bool.not_not, ne_eq, Int.not_lt, Int.not_le, Decidable.not_not, beq_iff_eq, bne_iff_ne] at hc0
    obtain ⟨c9, hc9⟩ : ∃ c9, cs[s.i]? = some c9 := ⟨_, List.getElem?_eq_getElem (by omega)⟩
    have hcd := hcs c9 (List.mem_of_getElem? hc9)
    have hcv := hcd.dv
    obtain ⟨b1, j1, hq1, hE1, hm1⟩ := row_mem hR (by omega) hpre.2
    rw [hq1] at hl hh
    have hd1 := fl_at chv_len hc9 j1
    obtain ⟨o, ho⟩ : ∃ o, s.os[c9.dv.toNat]? = some o := ⟨_, List.getElem?_eq_getElem (by rw [hI.l]; omega)⟩
    have hdo : s.n.dv[c9.dv.toNat]? = some o.d := by show (s.os.map OwD.d)[c9.dv.toNat]? = _; rw [List.getElem?_map, ho]; rfl
    have hoo := hI.ok o (List.mem_of_getElem? ho)
    rw [os_split ho] at hh
    try simp only [List.append_assoc] at hh
    refine wp_skip ?_
    refine then_normal ?_
    refine c_seq ?_
    refine wp_block ?_
    refine c_seq ?_
    refine c_region ?_
    refine wl (wl_val hl rfl trivial (r_indexS hl rfl rfl slc139 (by omega) (by omega) (by first | (simp only [Int.reduceToNat]; rfl) | exact toNat_add1 _ | exact toNat_add2 _ _ | exact toNat_emod _ _ | exact Int.toNat_natCast _ | rfl)) ?_)
    clear hl a; intro a hl
    first | refine wl (w_loadA hl hh rfl trivial agg162 rfl (by repeat (first | exact find_head | apply find_tail | apply find_skip)) (by first | rfl | exact hd1) (by first | rfl | exact chv_len _) ?_) | refine wl (w_loadRA hl hh rfl trivial agg162 rfl hm1 (by simp) hd1 rfl ?_)
    clear hl a; intro a hl
    refine wl (w_alloc hl hh rfl trivial zero162 rfl ?_)
    clear hl hh a w; intro k8 a w hl hh
    refine wl (w_storeA hl hh trivial agg162 rfl rfl (by repeat (first | exact find_head | apply find_tail | apply find_skip)) (by first | rfl | exact chv_len _) (by exact Nat.le_refl 12) (by rfl) (by exact setL_all rfl) ?_)
    clear hh w; intro w hh
    refine w_nil ?_
    have hl2 := hl.add (t := 2) (hl.add (t := 4) (hl.add (t := 6) (hl.add (t := 8) (hl.add (t := 12) (hl.add (t := 13) (hl.add (t := 14) (hl.nil) rfl) rfl) rfl) rfl) rfl) rfl) rfl; clear hl; have hl := hl2; clear hl2
    refine then_normal ?_
    refine c_seq ?_
    refine c_region ?_
    first | refine wl (w_loadA hl hh rfl trivial agg162 rfl (by repeat (first | exact find_head | apply find_tail | apply find_skip)) (by first | rfl | exact hd1) (by first | rfl | exact chv_len _) ?_) | refine wl (w_loadRA hl hh rfl trivial agg162 rfl hm1 (by simp) hd1 rfl ?_)
    clear hl a; intro a hl
    refine wl (w_call hl hh rfl trivial rfl cal71 rfl (step_spec k6 s.n hI.D c9 hcd o.d hdo o.r o.a hoo) (by repeat (first | exact keeps_nil | apply keeps_cons (by repeat (first | exact find_head | apply find_tail | apply find_skip)) (by first  | rfl) | exact keeps_self | exact keeps_left | apply keeps_app | apply keeps_mv | apply keeps_skip)) trivial ?_)
    clear hl hh a w; intro vc Fc a w hR hl hh
    rcases hR with ⟨hst, rfl, rfl⟩ | ⟨d', ln', RE', AE', hst, rfl, hll', hlb', hS', rfl⟩
    ·
      try simp only [List.cons_append, List.nil_append, List.append_nil] at hh
      refine wl (wl_val hl rfl trivial (r_not hl rfl) ?_)
      clear hl a; intro a hl
      refine w_nil ?_
      have hl2 := hl.add (t := 2) (hl.add (t := 4) (hl.add (t := 6) (hl.add (t := 12) (hl.add (t := 13) (hl.add (t := 14) (hl.add (t := 20) (hl.nil) rfl) rfl) rfl) rfl) rfl) rfl) rfl; clear hl; have hl := hl2; clear hl2
      refine then_normal ?_
      refine c_condT hl rfl ?_
      refine c_seq ?_
      refine c_region ?_
      first | refine wl (w_loadA hl hh rfl trivial agg66 rfl (by repeat (first | exact find_head | apply find_tail | apply find_skip)) (by first | exact NtV.whole hn | exact hI.D.whole) (by first | exact hnl | exact hD9.len | exact hI.D.len) ?_) | refine wl (w_loadRA hl hh rfl trivial agg66 rfl hm1 (by simp) hd1 rfl ?_)
      clear hl a; intro a hl
      refine wl (w_storeA hl hh trivial agg66 rfl rfl (by repeat (first | exact find_head | apply find_tail | apply find_skip)) (by first | exact hnl | exact hD9.len | exact hI.D.len) (by first | exact Nat.le_refl 64) (by exact NtV.one) (by first | exact setL_all (show 64 = _ from hD9.len.symm) | exact setL_all (show 64 = _ from hnl.symm) | exact setL_all (show 64 = _ from hI.D.len.symm)) ?_)
      clear hh w; intro w hh
      refine wl (wl_val hl rfl trivial (r_assign hl rfl) ?_)
      clear hl a; intro a hl
      refine w_nil ?_
      have hl2 := hl.add (t := 4) (hl.add (t := 5) (hl.nil) rfl) rfl; clear hl; have hl := hl2; clear hl2
      refine then_normal ?_
      refine wp_ret ?_
      refine blk_ret ?_
      refine then_ret ?_
      refine then_ret ?_
      refine blk_ret ?_
      refine then_ret ?_
      refine f_retCT (F' := []) hl hh rfl rfl agg66 (by repeat (first | exact find_head | apply find_tail | apply find_skip)) (by first | rfl | exact arrL_length _ _ | exact hnl | exact hI.D.len | (simp; done)) rfl (by repeat (first | exact keeps_nil | apply keeps_cons (by repeat (first | exact find_head | apply find_tail | apply find_skip)) (by first  | rfl) | exact keeps_self | exact keeps_left | apply keeps_app | apply keeps_mv | apply keeps_skip)) ?_
      exact .inl ⟨by rw [hI.e, apP_no hc9 hst], rfl, rfl⟩
    ·
      try simp only [List.cons_append, List.nil_append, List.append_nil] at hh
      try simp only [List.append_assoc] at hh
      refine wl (wl_val hl rfl trivial (r_not hl rfl) ?_)
      clear hl a; intro a hl
      refine w_nil ?_
      have hl2 := hl.add (t := 2) (hl.add (t := 4) (hl.add (t := 6) (hl.add (t := 12) (hl.add (t := 13) (hl.add (t := 14) (hl.add (t := 20) (hl.nil) rfl) rfl) rfl) rfl) rfl) rfl) rfl; clear hl; have hl := hl2; clear hl2
      refine then_normal ?_
      refine c_condF hl rfl ?_
      refine wp_skip ?_
      refine blk_normal ?_
      refine then_normal ?_
      refine c_region ?_
      first | refine wl (wl_val hl rfl trivial (r_add hl rfl rfl (by simp only [Fits]; omega)) ?_) | refine wl (wl_val hl rfl trivial (r_addW hl rfl rfl) ?_)
      clear hl a; intro a hl
      refine wl (wl_val hl rfl trivial (r_move hl rfl) ?_)
      clear hl a; intro a hl
      refine w_nil ?_
      have hl2 := hl.add (t := 2) (hl.add (t := 4) (hl.add (t := 6) (hl.add (t := 12) (hl.add (t := 13) (hl.add (t := 14) (hl.nil) rfl) rfl) rfl) rfl) rfl) rfl; clear hl; have hl := hl2; clear hl2
      refine then_normal ?_
      rw [← hq1] at hh
      refine ⟨⟨s.i + 1, s.os.set c9.dv.toNat ⟨d', RE', AE'⟩, ln'⟩, (by simp only; omega), hI.next hc9 hst hll' hlb' hS', hl.addE (t := 14) (hl.addE (t := 2) (hl.addE (t := 4) (hl.addE (t := 6) (hl.addE (t := 12) (hl.addE (t := 13) (hl.nil) rfl (by first | rfl | exact congrArg (Value.int .i64) (show (s.i : Int) + 1 = ((s.i + 1 : Nat) : Int) by omega) | (rw [hq1]))) rfl (by first | rfl | exact congrArg (Value.int .i64) (show (s.i : Int) + 1 = ((s.i + 1 : Nat) : Int) by omega) | (rw [hq1]))) rfl (by first | rfl | exact congrArg (Value.int .i64) (show (s.i : Int) + 1 = ((s.i + 1 : Nat) : Int) by omega) | (rw [hq1]))) rfl (by first | rfl | exact congrArg (Value.int .i64) (show (s.i : Int) + 1 = ((s.i + 1 : Nat) : Int) by omega) | (rw [hq1]))) rfl (by first | rfl | exact congrArg (Value.int .i64) (show (s.i : Int) + 1 = ((s.i + 1 : Nat) : Int) by omega) | (rw [hq1]))) rfl (by first | rfl | exact congrArg (Value.int .i64) (show (s.i : Int) + 1 = ((s.i + 1 : Nat) : Int) by omega) | (rw [hq1])), (by simp only [os_set ho, List.append_assoc]; exact hh.keep (by repeat (first | exact keeps_nil | apply keeps_cons (by repeat (first | exact find_head | apply find_tail | apply find_skip)) (by first | (unfold ApS.n; simp only [List.map_set]; done) | (unfold ApS.n; simp only [List.map_set]; rfl) | rfl) | exact keeps_self | exact keeps_left | apply keeps_app | apply keeps_mv | apply keeps_skip)))⟩
  · intro hc0
    try simp only [decide_eq_true_eq, decide_eq_false_iff_not, Bool.not_eq_true', Bool.not_eq_false', Bool.not_eq_true, Bool.not_eq_false, Bool.and_eq_true, Bool.or_eq_true, Bool.and_eq_false_iff, Bool.or_eq_false_iff, Bool.not_not, ne_eq, Int.not_lt, Int.not_le, Decidable.not_not, beq_iff_eq, bne_iff_ne] at hc0
    have hie : s.i = cs.length := by omega
    refine wp_exit ?_
    refine then_exit ?_
    refine then_exit ?_
    refine blk_exit ?_
    refine then_normal ?_
    refine c_seq ?_
    refine c_region ?_
    first | refine wl (w_loadA hl hh rfl trivial agg66 rfl (by repeat (first | exact find_head | apply find_tail | apply find_skip)) (by first | exact NtV.whole hn | exact hI.D.whole) (by first | exact hnl | exact hD9.len | exact hI.D.len) ?_) | refine wl (w_loadRA hl hh rfl trivial agg66 rfl hm1 (by simp) hd1 rfl ?_)
    clear hl a; intro a hl
    refine wl (w_storeA hl hh trivial agg66 rfl rfl (by repeat (first | exact find_head | apply find_tail | apply find_skip)) (by first | exact hnl | exact hD9.len | exact hI.D.len) (by first | exact Nat.le_refl 64) (by exact NtV.one) (by first | exact setL_all (show 64 = _ from hD9.len.symm) | exact setL_all (show 64 = _ from hnl.symm) | exact setL_all (show 64 = _ from hI.D.len.symm)) ?_)
    clear hh w; intro w hh
    refine wl (wl_val hl rfl trivial (r_assign hl rfl) ?_)
    clear hl a; intro a hl
    refine w_nil ?_
    have hl2 := hl.add (t := 4) (hl.add (t := 5) (hl.nil) rfl) rfl; clear hl; have hl := hl2; clear hl2
    refine then_normal ?_
    refine wp_ret ?_
    refine f_retCT (F' := s.os.flatMap OwD.E) hl hh rfl rfl agg66 (by repeat (first | exact find_head | apply find_tail | apply find_skip)) (by first | rfl | exact arrL_length _ _ | exact hnl | exact hI.D.len | (simp; done)) rfl (by repeat (first | exact keeps_nil | apply keeps_cons (by repeat (first | exact find_head | apply find_tail | apply find_skip)) (by first  | rfl) | exact keeps_self | exact keeps_left | apply keeps_app | apply keeps_mv | apply keeps_skip)) ?_
    exact .inr ⟨s.n, hI.fin hie, hI.net, rfl⟩
end Go.Proofs.Qxb6500908aGreat

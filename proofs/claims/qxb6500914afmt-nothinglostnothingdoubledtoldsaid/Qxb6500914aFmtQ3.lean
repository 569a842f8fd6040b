import Derived.Test.Qxb6500914aFmtQ2
import Derived.Test.Qxb6500914aFmtExt
namespace Go.Proofs.Qxb6500914aFmt
open Go.Eng
set_option linter.unusedVariables false
set_option linter.unusedSimpArgs false
theorem agg63 : aggOk Tryf.prog 63 6 = true := by kernel_rfl
theorem arrT63 : arrTOk Tryf.prog 63 6 1 3 = true := by kernel_rfl
theorem zero9 : zeroOk Tryf.prog 9 (.string ⟨#[]⟩) := by unfold zeroOk; kernel_rfl
theorem conc3 : concT Tryf.prog 3 = true := by kernel_rfl
theorem app130 : appOk Tryf.prog 130 20 1 16 = true := by kernel_rfl
theorem zero20 : zeroOk Tryf.prog 20 .nilIface := by unfold zeroOk; kernel_rfl
theorem call32 (args : Array Value) (w : World) : (callFunc 32 args).run Tryf.prog w = ((Go.Extern.FmtStop.sprintf #[9, 130] #[9] args).run Tryf.prog w).andThen fun v w' => .ok (.value v) w' :=
  run_callFunc_extern Tryf.func32 (by kernel_rfl) (by kernel_rfl) (by kernel_rfl) (by kernel_rfl) args w
theorem fguard (name : String) (w : World) : (Go.Extern.FmtStop.guard name).run Tryf.prog w = .ok () w := by kernel_rfl
def fbytes : List UInt8 := [116, 104, 101, 32, 115, 112, 97, 114, 101, 32, 111, 102, 32, 116, 104, 114, 101, 97, 100, 32, 37, 100]
theorem fprinted : Go.Extern.FmtStop.printed? ⟨⟨fbytes⟩⟩ 1 = some [(0, 100, false)] := by kernel_rfl
theorem foper (name : String) (x : Int) (w : World) : ∃ r, (Go.Extern.FmtStop.operand name false 100 false (.iface 3 (.int .i64 x))).run Tryf.prog w = .ok r w := ⟨([5, 3, 0, 0, 0, 0, 0, 0, 0, 105, 110, 116], Go.Extern.Stop.digits 8 (x % 2 ^ 64).toNat), by kernel_rfl⟩
theorem sprintf_run (w : World) (b : Nat) (t : Int) (hb : w.heap[b]? = some (C [.iface 3 (.int .i64 t)] 20)) : ∃ u w', (Go.Extern.FmtStop.sprintf #[9, 130] #[9] #[.string ⟨⟨fbytes⟩⟩, .slice (some ⟨b, 0, none⟩) 1 1]).run Tryf.prog w = .ok (.string u) w' ∧ (w' = w ∨ w' = w.drew) := by
  obtain ⟨r, hr⟩ := foper "fmt.Sprintf" t w
  have hld : (loadCells ⟨b, 0, none⟩ 1).run Tryf.prog w = .ok #[.iface 3 (.int .i64 t)] w := run_loadCellsC (P := Tryf.prog) (w := w) (o := 0) (cs := [.iface 3 (.int .i64 t)]) hb rfl
  have e : ∀ (f : ByteArray) (a : Value), Go.Extern.FmtStop.sprintf #[9, 130] #[9] #[.string f, a] = (do
    Go.Extern.FmtStop.guard "fmt.Sprintf"
    let vs ← Go.Extern.FmtStop.cells a
    match Go.Extern.FmtStop.printed? f vs.length with
    | some ps => Go.Extern.FmtStop.text "fmt.Sprintf" [f.data.toList] (← Go.Extern.FmtStop.readAll "fmt.Sprintf" false vs ps)
    | none => Go.Extern.FmtStop.text "fmt.Sprintf" [f.data.toList] (← vs.mapM (Go.Extern.FmtStop.strict "fmt.Sprintf"))) := fun _ _ => rfl
  rw [e]
  simp only [Sem.run_bind, fguard, Result.andThen_ok, Go.Extern.FmtStop.cells, hld, Sem.run_pure]
  rw [show Go.Extern.FmtStop.printed? ⟨⟨fbytes⟩⟩ (#[Value.iface 3 (.int .i64 t)] : Array Value).toList.length = some [(0, 100, false)] from fprinted]
  simp only [Go.Extern.FmtStop.readAll, Sem.run_bind, Result.andThen_ok, hr, Sem.run_pure, Go.Extern.FmtStop.text, List.getElem?_cons_zero, run_choose_drew, Go.Extern.FmtStop.str]
  split
  · exact ⟨_, w, rfl, .inl rfl⟩
  · exact ⟨_, w.drew, rfl, .inr rfl⟩
theorem vw_sps (st cu : Int) (sp : Nat → Nat) (lv : Value) : ((arrL 9 (vwV st cu sp 6 lv)).drop (0 + 2)).take 6 = arrL 6 (fun t => .int .i64 ((sp t : Nat) : Int)) := by
  unfold arrL; rfl
theorem au_start {cu : Nat} {v : Value} {z : Int} (h : mget (mput [] (cu : Int) v) z ≠ none) : z = cu := by
  rw [mget_mput] at h
  by_cases e : z = cu
  · exact e
  · rw [if_neg e] at h; exact absurd rfl h
def AuF (cu : Nat) (sp : Nat → Nat) (i : Nat) (M : List (Int × Value)) : Prop := i ≤ 6 ∧ ∀ z, mget M z ≠ none → z = cu ∨ ∃ t, t < i ∧ z = (sp t : Int)
theorem AuF.next {cu : Nat} {sp : Nat → Nat} {i : Nat} {M : List (Int × Value)} (h : AuF cu sp i M) (hi : i < 6) (v : Value) : AuF cu sp (i + 1) (mput M (sp i : Int) v) := by
  refine ⟨by omega, fun z hz => ?_⟩
  rw [mget_mput] at hz
  by_cases e : z = (sp i : Int)
  · exact .inr ⟨i, by omega, e⟩
  · rw [if_neg e] at hz
    rcases h.2 z hz with q | ⟨t, ht, q⟩
    · exact .inl q
    · exact .inr ⟨t, by omega, q⟩
theorem AuF.new {cu : Nat} {sp : Nat → Nat} {i : Nat} {M : List (Int × Value)} (h : AuF cu sp i M) (hi : i < 6) (hd1 : ∀ t, t < 6 → sp t ≠ cu) (hd2 : ∀ s t, s < 6 → t < 6 → s ≠ t → sp s ≠ sp t) : mget M (sp i : Int) = none := by
  cases hq : mget M (sp i : Int) with
  | none => rfl
  | some v =>
    exfalso
    rcases h.2 _ (by rw [hq]; simp) with q | ⟨t, ht, q⟩
    · exact hd1 i hi (by omega)
    · exact hd2 i t hi (by omega) (by omega) (by omega)

set_option maxHeartbeats 4000000 in
theorem audit_spec (st : Int) (cu : Nat) (sp : Nat → Nat) (lv : Value) (hcu : cu < 7) (hs : ∀ t, t < 6 → sp t < 7) (hd1 : ∀ t, t < 6 → sp t ≠ cu) (hd2 : ∀ s t, s < 6 → t < 6 → s ≠ t → sp s ≠ sp t) : Sp Tryf.prog 15 #[.agg ⟨arrL 9 (vwV st (cu : Int) sp 6 lv)⟩] [] (fun v F' => v = .nilIface ∧ F' = []) := by
  refine f_enter (args := [.agg ⟨arrL 9 (vwV st (cu : Int) sp 6 lv)⟩]) Tryf.func15 rfl Tryf.ntmps15 rfl ?_
  intro w0 w a hpre hl hh
  simp only [slotsFrom, Nat.reduceAdd] at hl
  refine c_seq ?_
  refine c_region ?_
  refine wl (w_box hl hh rfl trivial rfl rfl ?_)
  clear hl hh a w; intro k1 a w hl hh
  refine wl (wl_val hl rfl trivial (r_assign hl rfl) ?_)
  clear hl a; intro a hl
  refine w_nil ?_
  have hl2 := hl.add (t := 1) (hl.nil) rfl; clear hl; have hl := hl2; clear hl2
  refine then_normal ?_
  refine c_seq ?_
  refine c_region ?_
  refine wl (w_makeMap (kInt .i64) hl hh rfl trivial ?_)
  clear hl hh a w; intro k8 a w hl hh
  refine wl (wl_val hl rfl trivial (r_field hl rfl fld66_1) ?_)
  clear hl a; intro a hl
  refine wl (w_load hl hh rfl trivial one3 rfl (by repeat (first | exact find_head | apply find_tail)) (by exact vw_cur _ _ _ _ _) ?_)
  clear hl a; intro a hl
  refine wl (w_insert (keyInt Tryf.underlying3) Tryf.underlying99 hl hh trivial rfl rfl rfl (by repeat (first | exact find_head | apply find_tail)) ?_)
  clear hh w; intro w hh
  refine wl (wl_val hl rfl trivial (r_move hl rfl) ?_)
  clear hl a; intro a hl
  refine wl (wl_val hl rfl trivial (r_assign hl rfl) ?_)
  clear hl a; intro a hl
  refine w_nil ?_
  have hl2 := hl.add (t := 1) (hl.add (t := 3) (hl.nil) rfl) rfl; clear hl; have hl := hl2; clear hl2
  refine then_normal ?_
  refine c_seq ?_
  refine c_seq ?_
  refine c_region ?_
  refine wl (wl_val hl rfl trivial (r_field hl rfl fld66_2) ?_)
  clear hl a; intro a hl
  refine wl (w_loadA hl hh rfl trivial agg63 rfl (by repeat (first | exact find_head | apply find_tail)) (by exact vw_sps _ _ _ _) (by rw [arrL_length]) ?_)
  clear hl a; intro a hl
  refine wl (wl_val hl rfl trivial (r_move hl rfl) ?_)
  clear hl a; intro a hl
  refine w_nil ?_
  have hl2 := hl.add (t := 3) (hl.add (t := 13) (hl.add (t := 14) (hl.nil) rfl) rfl) rfl; clear hl; have hl := hl2; clear hl2
  refine then_normal ?_
  refine wp_block ?_
  obtain ⟨KS0, hKS0, hk⟩ := (hl.add (t := 3) (hl.add (t := 13) (hl.nil) rfl) rfl).name
  obtain ⟨HS0, hHS0, hh2⟩ := hh.name (keeps_cons (b := k8) (o' := MO (kInt .i64) (mput [] (cu : Int) (.string ⟨⟨[116, 104, 101, 32, 99, 117, 114, 114, 101, 110, 116, 32, 110, 111, 100, 101]⟩⟩))) (by repeat (first | exact find_head | apply find_tail)) (by first | rfl) (keeps_nil))
  refine c_loop (α := Nat × List (Int × Value)) (fun s => 6 - s.1) (fun s a w => (AuF cu sp s.1 s.2) ∧ Sl 52 ([(14, .int .i64 (s.1 : Int))] ++ KS0) a ∧ Has _ w0 ([(k8, MO (kInt .i64) s.2)] ++ HS0) w) (0, mput [] (cu : Int) (.string ⟨⟨[116, 104, 101, 32, 99, 117, 114, 114, 101, 110, 116, 32, 110, 111, 100, 101]⟩⟩)) ⟨⟨Nat.zero_le _, fun z hz => .inl (au_start hz)⟩, hl.addE (t := 14) (hk) rfl (by first | rfl), hh2⟩ ?_
  clear hk hh2 hl hh a w
  intro s a w hI
  obtain ⟨hS, hl, hh⟩ := hI
  subst hKS0; subst hHS0
  simp only [List.cons_append, List.nil_append, List.append_nil] at hl hh
  refine c_seq ?_
  refine c_region ?_
  refine wl (wl_val hl rfl trivial (r_lss hl rfl rfl) ?_)
  clear hl a; intro a hl
  refine w_nil ?_
  have hl2 := hl.add (t := 3) (hl.add (t := 13) (hl.add (t := 14) (hl.add (t := 15) (hl.nil) rfl) rfl) rfl) rfl; clear hl; have hl := hl2; clear hl2
  refine then_normal ?_
  refine c_seq ?_
  refine c_cond hl rfl ?_ ?_
  · intro hc0
    try simp only [decide_eq_true_eq, decide_eq_false_iff_not, Bool.not_eq_true', Bool.not_eq_false', Bool.not_eq_true, Bool.not_eq_false, Bool.and_eq_true, Bool.or_eq_true, Bool.and_eq_false_iff, Bool.or_eq_false_iff, Bool.not_not, ne_eq, Int.not_lt, Int.not_le, Decidable.not_not, beq_iff_eq, bne_iff_ne] at hc0
    have hs7 := hs s.1 (by omega)
    have hnw := hS.new (by omega) hd1 hd2
    refine wp_skip ?_
    refine then_normal ?_
    refine c_seq ?_
    refine wp_block ?_
    refine c_seq ?_
    refine c_region ?_
    refine wl (wl_val hl rfl trivial (r_move hl rfl) ?_)
    clear hl a; intro a hl
    refine wl (wl_val hl rfl trivial (r_indexAgg hl rfl rfl arrT63 one3 (by omega) (by omega) (by first | (simp only [Int.reduceToNat]; rfl) | exact toNat_add1 _ | exact toNat_add2 _ _ | exact toNat_emod _ _ | exact Int.toNat_natCast _ | rfl) (by rw [Nat.mul_one]; exact (arrL_get (by omega)))) ?_)
    clear hl a; intro a hl
    refine wl (wl_val hl rfl trivial (r_assign hl rfl) ?_)
    clear hl a; intro a hl
    refine wl (wl_val hl rfl trivial (r_assign hl rfl) ?_)
    clear hl a; intro a hl
    refine w_nil ?_
    have hl2 := hl.add (t := 3) (hl.add (t := 4) (hl.add (t := 5) (hl.add (t := 13) (hl.add (t := 14) (hl.nil) rfl) rfl) rfl) rfl) rfl; clear hl; have hl := hl2; clear hl2
    refine then_normal ?_
    refine c_seq ?_
    refine c_seq ?_
    refine c_region ?_
    refine wl (wl_val hl rfl trivial (r_move hl rfl) ?_)
    clear hl a; intro a hl
    refine wl (wl_val hl rfl trivial (r_lss hl rfl rfl) ?_)
    clear hl a; intro a hl
    refine wl (wl_val hl rfl trivial (r_move hl rfl) ?_)
    clear hl a; intro a hl
    refine sl_split (t := 20) hl rfl ?_ ?_
    · intro hg1; clear hl; intro hl
      try simp only [decide_eq_true_eq, decide_eq_false_iff_not, Bool.not_eq_true', Bool.not_eq_false', Bool.not_eq_true, Bool.not_eq_false, Bool.and_eq_true, Bool.or_eq_true, Bool.and_eq_false_iff, Bool.or_eq_false_iff, Bool.not_not, ne_eq, Int.not_lt, Int.not_le, Decidable.not_not, beq_iff_eq, bne_iff_ne] at hg1
      exfalso; first | omega | (simp at *; done)
    · intro hg1; clear hl; intro hl
      try simp only [decide_eq_true_eq, decide_eq_false_iff_not, Bool.not_eq_true', Bool.not_eq_false', Bool.not_eq_true, Bool.not_eq_false, Bool.and_eq_true, Bool.or_eq_true, Bool.and_eq_false_iff, Bool.or_eq_false_iff, Bool.not_not, ne_eq, Int.not_lt, Int.not_le, Decidable.not_not, beq_iff_eq, bne_iff_ne] at hg1
      refine wl (wl_val hl rfl ⟨_, _, rfl, rfl, rfl⟩ (r_move hl rfl) ?_)
      clear hl a; intro a hl
      refine wl (wl_val hl rfl ⟨_, _, rfl, rfl, rfl⟩ (r_geq hl rfl rfl) ?_)
      clear hl a; intro a hl
      refine wl (wl_val hl rfl trivial (r_pickF hl rfl rfl) ?_)
      clear hl a; intro a hl
      refine w_nil ?_
      have hl2 := hl.add (t := 3) (hl.add (t := 4) (hl.add (t := 5) (hl.add (t := 13) (hl.add (t := 14) (hl.add (t := 23) (hl.nil) rfl) rfl) rfl) rfl) rfl) rfl; clear hl; have hl := hl2; clear hl2
      refine then_normal ?_
      refine c_cond hl rfl ?_ ?_
      · intro hc1
        try simp only [decide_eq_true_eq, decide_eq_false_iff_not, Bool.not_eq_true', Bool.not_eq_false', Bool.not_eq_true, Bool.not_eq_false, Bool.and_eq_true, Bool.or_eq_true, Bool.and_eq_false_iff, Bool.or_eq_false_iff, Bool.not_not, ne_eq, Int.not_lt, Int.not_le, Decidable.not_not, beq_iff_eq, bne_iff_ne] at hc1
        exfalso; first | omega | (simp at *; done)
      · intro hc1
        try simp only [decide_eq_true_eq, decide_eq_false_iff_not, Bool.not_eq_true', Bool.not_eq_false', Bool.not_eq_true, Bool.not_eq_false, Bool.and_eq_true, Bool.or_eq_true, Bool.and_eq_false_iff, Bool.or_eq_false_iff, Bool.not_not, ne_eq, Int.not_lt, Int.not_le, Decidable.not_not, beq_iff_eq, bne_iff_ne] at hc1
        refine wp_skip ?_
        refine then_normal ?_
        refine c_seq ?_
        refine c_seq ?_
        refine c_region ?_
        refine wl (wl_val hl rfl trivial (r_move hl rfl) ?_)
        clear hl a; intro a hl
        refine wl (wl_val hl rfl trivial (r_move hl rfl) ?_)
        clear hl a; intro a hl
        refine wl (w_lookup2 (keyInt Tryf.underlying3) Tryf.underlying99 zero9 hl hh rfl trivial rfl rfl (by repeat (first | exact find_head | apply find_tail)) ?_)
        clear hl a; intro a hl
        rw [hnw] at hl
        refine wl (wl_val hl rfl trivial (r_move hl rfl) ?_)
        clear hl a; intro a hl
        refine wl (wl_val hl rfl trivial (r_extract hl rfl (by simp only [List.getElem?_toArray, List.getElem?_cons_zero, List.getElem?_cons_succ]; rfl)) ?_)
        clear hl a; intro a hl
        refine wl (wl_val hl rfl trivial (r_extract hl rfl (by simp only [List.getElem?_toArray, List.getElem?_cons_zero, List.getElem?_cons_succ]; rfl)) ?_)
        clear hl a; intro a hl
        refine wl (wl_val hl rfl trivial (r_assign hl rfl) ?_)
        clear hl a; intro a hl
        refine wl (wl_val hl rfl trivial (r_assign hl rfl) ?_)
        clear hl a; intro a hl
        refine w_nil ?_
        have hl2 := hl.add (t := 3) (hl.add (t := 4) (hl.add (t := 5) (hl.add (t := 6) (hl.add (t := 7) (hl.add (t := 13) (hl.add (t := 14) (hl.nil) rfl) rfl) rfl) rfl) rfl) rfl) rfl; clear hl; have hl := hl2; clear hl2
        refine then_normal ?_
        refine c_seq ?_
        refine c_region ?_
        refine wl (wl_val hl rfl trivial (r_move hl rfl) ?_)
        clear hl a; intro a hl
        refine w_nil ?_
        have hl2 := hl.add (t := 3) (hl.add (t := 4) (hl.add (t := 5) (hl.add (t := 6) (hl.add (t := 13) (hl.add (t := 14) (hl.add (t := 36) (hl.nil) rfl) rfl) rfl) rfl) rfl) rfl) rfl; clear hl; have hl := hl2; clear hl2
        refine then_normal ?_
        refine c_cond hl rfl ?_ ?_
        · intro hc2
          try simp only [decide_eq_true_eq, decide_eq_false_iff_not, Bool.not_eq_true', Bool.not_eq_false', Bool.not_eq_true, Bool.not_eq_false, Bool.and_eq_true, Bool.or_eq_true, Bool.and_eq_false_iff, Bool.or_eq_false_iff, Bool.not_not, ne_eq, Int.not_lt, Int.not_le, Decidable.not_not, beq_iff_eq, bne_iff_ne] at hc2
          exfalso; simp [hnw] at hc2
        · intro hc2
          try simp only [decide_eq_true_eq, decide_eq_false_iff_not, Bool.not_eq_true', Bool.not_eq_false', Bool.not_eq_true, Bool.not_eq_false, Bool.and_eq_true, Bool.or_eq_true, Bool.and_eq_false_iff, Bool.or_eq_false_iff, Bool.not_not, ne_eq, Int.not_lt, Int.not_le, Decidable.not_not, beq_iff_eq, bne_iff_ne] at hc2
          refine wp_skip ?_
          refine then_normal ?_
          refine c_region ?_
          refine wl (wl_val hl rfl trivial (r_move hl rfl) ?_)
          clear hl a; intro a hl
          refine wl (wl_val hl rfl trivial (r_move hl rfl) ?_)
          clear hl a; intro a hl
          refine wl (wl_val hl rfl trivial (r_move hl rfl) ?_)
          clear hl a; intro a hl
          refine wl (wl_val hl rfl trivial (r_makeInterface hl rfl conc3) ?_)
          clear hl a; intro a hl
          refine wl (w_buildSlice hl hh rfl trivial app130 zero20 rfl rfl rfl rfl rfl (by simp only [fillL, arrPl, List.range_succ, List.range_zero, List.map_cons, List.map_nil, List.map_append, List.nil_append, List.replicate_succ, List.replicate_zero, List.flatten_cons, List.flatten_nil, Nat.zero_mul, Nat.mul_one, Nat.one_mul, Nat.reduceMul, setL, List.getElem?_cons_zero, List.getElem?_cons_succ, Value.cells, List.take_zero, List.take_succ_cons, List.take_nil, List.drop_zero, List.drop_succ_cons, List.drop_nil, List.length_cons, List.length_nil, List.cons_append, List.nil_append, List.append_nil, Nat.zero_add, Nat.add_zero, Nat.reduceAdd, Nat.reduceBEq, Nat.reduceEqDiff, Nat.ble, BEq.rfl, Bool.and_true, Bool.and_self, cond_true, beq_self_eq_true]; rfl) ?_)
          clear hl hh a w; intro k49 a w hl hh
          refine wl (w_extern call32 hl hh rfl trivial rfl rfl (sprintf_run w k49 (s.1 : Int) (hh.mem _ _ (Find.mem (by repeat (first | exact find_head | apply find_tail))))) ?_)
          clear hl hh a w; intro u50 a w hl hh
          refine wl (w_mapUpdate (keyInt Tryf.underlying3) Tryf.underlying99 hl hh trivial rfl rfl rfl (by repeat (first | exact find_head | apply find_tail)) ?_)
          clear hh w; intro w hh
          refine w_nil ?_
          have hl2 := hl.add (t := 3) (hl.add (t := 13) (hl.add (t := 14) (hl.nil) rfl) rfl) rfl; clear hl; have hl := hl2; clear hl2
          refine blk_normal ?_
          refine then_normal ?_
          refine c_region ?_
          first | refine wl (wl_val hl rfl trivial (r_add hl rfl rfl (by simp only [Fits]; omega)) ?_) | refine wl (wl_val hl rfl trivial (r_addW hl rfl rfl) ?_)
          clear hl a; intro a hl
          refine wl (wl_val hl rfl trivial (r_move hl rfl) ?_)
          clear hl a; intro a hl
          refine w_nil ?_
          have hl2 := hl.add (t := 3) (hl.add (t := 13) (hl.add (t := 14) (hl.nil) rfl) rfl) rfl; clear hl; have hl := hl2; clear hl2
          refine then_normal ?_
          refine ⟨(s.1 + 1, mput s.2 (sp s.1 : Int) (.string u50)), (by simp only; omega), (hS.next (by omega) _), hl.addE (t := 14) (hl.addE (t := 3) (hl.addE (t := 13) (hl.nil) rfl (by first | rfl | rfl)) rfl (by first | rfl | rfl)) rfl (by first | rfl | rfl), hh.keep (by repeat (first | exact keeps_nil | apply keeps_cons (by repeat (first | exact find_head | apply find_tail)) (by first  | rfl) | exact keeps_self | apply keeps_mv))⟩
  · intro hc0
    try simp only [decide_eq_true_eq, decide_eq_false_iff_not, Bool.not_eq_true', Bool.not_eq_false', Bool.not_eq_true, Bool.not_eq_false, Bool.and_eq_true, Bool.or_eq_true, Bool.and_eq_false_iff, Bool.or_eq_false_iff, Bool.not_not, ne_eq, Int.not_lt, Int.not_le, Decidable.not_not, beq_iff_eq, bne_iff_ne] at hc0
    refine wp_exit ?_
    refine then_exit ?_
    refine then_exit ?_
    refine blk_exit ?_
    refine then_normal ?_
    refine c_seq ?_
    refine c_region ?_
    refine wl (wl_val hl rfl trivial (r_assign hl rfl) ?_)
    clear hl a; intro a hl
    refine w_nil ?_
    have hl2 := hl.add (t := 2) (hl.nil) rfl; clear hl; have hl := hl2; clear hl2
    refine then_normal ?_
    refine wp_ret ?_
    refine f_ret1 (F' := []) hl hh rfl rfl (by repeat (first | exact keeps_nil | apply keeps_cons (by repeat (first | exact find_head | apply find_tail)) (by first  | rfl) | exact keeps_self | apply keeps_mv)) ?_
    exact ⟨rfl, rfl⟩
end Go.Proofs.Qxb6500914aFmt

import Derived.Test.Qxb6500912aDoorA16
namespace Go.Proofs.Qxb6500912aDoor
open Go.Eng
set_option linter.unusedVariables false
set_option linter.unusedSimpArgs false
theorem slc22 : slcOk Tryd.prog 22 16 = true := by kernel_rfl
theorem zero41 : zeroOk Tryd.prog 41 (.agg #[(.pointer none), (.int .u32 0), (.int .u32 0), (.int .u32 0), (.int .u32 0), (.int .u32 0), (.int .u32 0), (.bool false), (.int .u32 0), (.int .u32 0), (.bool false)]) := by unfold zeroOk; kernel_rfl
theorem bld41 : buildOk Tryd.prog 41 [(0, 1), (1, 10)] = true := by kernel_rfl
/-! ## the script -/
structure DOps (sb : Nat) (c : List Value) (p : Option Addr) (cap : Nat) (ops : List DO) : Prop where
  le : ops.length ≤ cap
  ok : ∀ o, o ∈ ops → o.ok
  sm : ∀ o, o ∈ ops → o.dat.length ≤ 140737488351232
  at_ : 0 < ops.length → ∃ so, p = some ⟨sb, so, none⟩ ∧ ∀ i o, ops[i]? = some o → (c.drop (so + i * 16)).take 16 = o.vals
def DIn (sb : Nat) (c : List Value) (T : TypeId) (fr : Nat × Nat) (ops : List DO) (w : World) : Prop := (0 < ops.length → w.heap[sb]? = some (.cells ⟨c⟩ T fr)) ∧ ∀ d, d ∈ ops → Mem d.Sc w
structure ZS where
  i : Nat
  n : Int
structure LS where
  t : St
  cp : Nat
  Z : List (Nat × Obj)
  i : Nat
def cfg0 : CF := ⟨0, 1048576, 1, 2, 1, 3, true, 1000, 0, false⟩
theorem cfg0_ok : CFok cfg0 := by unfold cfg0; refine ⟨?_, ?_, ?_, ?_, ?_, ?_, ?_, ?_⟩ <;> exact ⟨by decide, by decide⟩
theorem cfg0_cv : CV cfg0 := by unfold CV cfg0; decide
def AftOk (after : Value) : Prop := after = .nilFunc ∨ ∃ fb, after = .func (.func fb) #[] #[] ∧ CalOk fb ∧ ∀ Z bp t t' o, DO.ok o → SI t → SI t' → StepR o t t' → WB Z bp t' →
  SpK Tryd.prog fb #[.pointer (some ⟨bp, 0, none⟩), .agg ⟨vwc (viewP t.s t.ns t.bl)⟩, .agg ⟨o.vals⟩] (Mem Z) [] (fun v F' => v = .bool true ∧ F' = [])
theorem AskOk.cells {a : Value} (h : AskOk a) : a.cells = ⟨[a]⟩ := by
  rcases h with rfl | ⟨fa, rfl, _⟩ <;> rfl
theorem play_dis {w0 w : World} {F R A G : List (Nat × Obj)} {x4 x7 : Nat × Obj} (hh : Has [] w0 F w) (hp : Keeps F A G) (h4 : x4 ∈ G) (h7 : x7 ∈ G) (hR : Mem R w0) : ∀ x, x ∈ x4 :: x7 :: R → x.1 ∉ A.map Prod.fst := fun x hx hm => by
  have h1 := hh.perm hp.perm
  have hnd := h1.nodup
  rw [List.map_append, List.nodup_append] at hnd
  rcases List.mem_cons.1 hx with rfl | hx
  · exact hnd.2.2 _ hm _ (List.mem_map.2 ⟨_, h4, rfl⟩) rfl
  rcases List.mem_cons.1 hx with rfl | hx
  · exact hnd.2.2 _ hm _ (List.mem_map.2 ⟨_, h7, rfl⟩) rfl
  · exact fresh_not h1 (x := x) (hR _ _ hx) (by rw [List.map_append]; exact List.mem_append_left _ hm) rfl
theorem play_mem {w : World} {R : List (Nat × Obj)} {b4 b7 : Nat} {o4 o7 : Obj} {F G4 G7 : List (Nat × Obj)} (hm : Mem F w) (h4 : Find F b4 o4 G4) (h7 : Find F b7 o7 G7) (hR : Mem R w) : Mem ((b4, o4) :: (b7, o7) :: R) w := Mem.cons hm h4 (Mem.cons hm h7 hR)


set_option maxHeartbeats 1000000 in
theorem small_spec (sb : Nat) (c : List Value) (T : TypeId) (fr : Nat × Nat) (p : Option Addr) (n cap : Nat) (ops : List DO) (hn : n = ops.length) (hlen : n ≤ 9223372036854775807) (h : DOps sb c p cap ops) : SpK Tryd.prog 8 #[.slice p n cap] (DIn sb c T fr ops) [] (fun v F' => (v = .bool false ∧ F' = []) ∨ ((v = .bool true ∧ ∀ o, o ∈ ops → o.dat.length ≤ 65536) ∧ F' = [])) := by
  refine f_enter (args := [.slice p n cap]) Tryd.func8 rfl Tryd.ntmps8 rfl ?_
  intro w0 w a hpre hl hh
  simp only [slotsFrom, Nat.reduceAdd] at hl
  refine c_seq ?_
  refine c_region ?_
  refine wl (wl_val hl rfl trivial (r_assign hl rfl) ?_)
  clear hl a; intro a hl
  refine w_nil ?_
  have hl2 := hl.add (t := 0) (hl.nil) rfl; clear hl; have hl := hl2; clear hl2
  refine then_normal ?_
  refine c_seq ?_
  refine c_region ?_
  refine wl (wl_val hl rfl trivial (r_move hl rfl) ?_)
  clear hl a; intro a hl
  refine wl (wl_val hl rfl trivial (r_lenS hl rfl slc22) ?_)
  clear hl a; intro a hl
  refine wl (wl_val hl rfl trivial (r_assign hl rfl) ?_)
  clear hl a; intro a hl
  refine w_nil ?_
  have hl2 := hl.add (t := 0) (hl.add (t := 3) (hl.nil) rfl) rfl; clear hl; have hl := hl2; clear hl2
  refine then_normal ?_
  refine c_seq ?_
  refine c_seq ?_
  refine c_region ?_
  refine wl (wl_val hl rfl trivial (r_move hl rfl) ?_)
  clear hl a; intro a hl
  refine wl (wl_val hl rfl trivial (r_gtr hl rfl rfl) ?_)
  clear hl a; intro a hl
  refine w_nil ?_
  have hl2 := hl.add (t := 0) (hl.add (t := 3) (hl.add (t := 8) (hl.nil) rfl) rfl) rfl; clear hl; have hl := hl2; clear hl2
  refine then_normal ?_
  refine c_cond hl rfl ?_ ?_
  · intro hc0
    try simp only [decide_eq_true_eq, decide_eq_false_iff_not, Bool.not_eq_true', Bool.not_eq_false', Bool.not_eq_true, Bool.not_eq_false, Bool.and_eq_true, Bool.or_eq_true, Bool.and_eq_false_iff, Bool.or_eq_false_iff, Bool.not_not, ne_eq, Int.not_lt, Int.not_le, Decidable.not_not, beq_iff_eq, bne_iff_ne] at hc0
    refine c_seq ?_
    refine c_region ?_
    refine wl (wl_val hl rfl trivial (r_assign hl rfl) ?_)
    clear hl a; intro a hl
    refine w_nil ?_
    have hl2 := hl.add (t := 2) (hl.nil) rfl; clear hl; have hl := hl2; clear hl2
    refine then_normal ?_
    refine wp_ret ?_
    refine then_ret ?_
    refine f_ret1 (F' := []) hl hh rfl rfl (by repeat (first | exact keeps_nil | apply keeps_cons (by repeat (first | exact find_head | apply find_tail)) (by first  | rfl) | exact keeps_self | apply keeps_mv)) ?_
    exact .inl ⟨rfl, rfl⟩
  · intro hc0
    try simp only [decide_eq_true_eq, decide_eq_false_iff_not, Bool.not_eq_true', Bool.not_eq_false', Bool.not_eq_true, Bool.not_eq_false, Bool.and_eq_true, Bool.or_eq_true, Bool.and_eq_false_iff, Bool.or_eq_false_iff, Bool.not_not, ne_eq, Int.not_lt, Int.not_le, Decidable.not_not, beq_iff_eq, bne_iff_ne] at hc0
    refine wp_skip ?_
    refine then_normal ?_
    refine c_seq ?_
    refine c_seq ?_
    refine c_region ?_
    refine wl (wl_val hl rfl trivial (r_assign hl rfl) ?_)
    clear hl a; intro a hl
    refine w_nil ?_
    have hl2 := hl.add (t := 0) (hl.add (t := 3) (hl.add (t := 4) (hl.nil) rfl) rfl) rfl; clear hl; have hl := hl2; clear hl2
    refine then_normal ?_
    refine wp_block ?_
    obtain ⟨KS0, hKS0, hk⟩ := (hl.add (t := 0) (hl.nil) rfl).name
    obtain ⟨HS0, hHS0, hh2⟩ := hh.name (keeps_nil)
    refine c_loop (α := ZS) (fun z => n - z.i) (fun z a w => ((z.i ≤ n ∧ (0 ≤ z.n ∧ z.n ≤ 65536)) ∧ ∀ j o, j < z.i → ops[j]? = some o → (o.dat.length : Int) ≤ z.n) ∧ Sl 25 ([(4, .int .i64 (z.i : Int)), (3, .int .i64 z.n)] ++ KS0) a ∧ Has _ w0 ([] ++ HS0) w) ⟨0, (n : Int)⟩ ⟨⟨⟨Nat.zero_le _, by simp only; omega, by simp only; omega⟩, fun j o hj => absurd hj (Nat.not_lt_zero _)⟩, hl.addE (t := 4) (hl.addE (t := 3) (hk) rfl (by first | rfl)) rfl (by first | rfl), hh2⟩ ?_
    clear hk hh2 hl hh a w
    intro z a w hI
    obtain ⟨⟨⟨hi, hz0, hz1⟩, hall⟩, hl, hh⟩ := hI
    subst hKS0; subst hHS0
    simp only [List.cons_append, List.nil_append, List.append_nil] at hl hh
    refine c_seq ?_
    refine c_seq ?_
    refine c_region ?_
    refine wl (wl_val hl rfl trivial (r_move hl rfl) ?_)
    clear hl a; intro a hl
    refine wl (wl_val hl rfl trivial (r_move hl rfl) ?_)
    clear hl a; intro a hl
    refine wl (wl_val hl rfl trivial (r_lenS hl rfl slc22) ?_)
    clear hl a; intro a hl
    refine wl (wl_val hl rfl trivial (r_lss hl rfl rfl) ?_)
    clear hl a; intro a hl
    refine w_nil ?_
    have hl2 := hl.add (t := 0) (hl.add (t := 3) (hl.add (t := 4) (hl.add (t := 12) (hl.nil) rfl) rfl) rfl) rfl; clear hl; have hl := hl2; clear hl2
    refine then_normal ?_
    refine c_cond hl rfl ?_ ?_
    · intro hc1
      try simp only [decide_eq_true_eq, decide_eq_false_iff_not, Bool.not_eq_true', Bool.not_eq_false', Bool.not_eq_true, Bool.not_eq_false, Bool.and_eq_true, Bool.or_eq_true, Bool.and_eq_false_iff, Bool.or_eq_false_iff, Bool.not_not, ne_eq, Int.not_lt, Int.not_le, Decidable.not_not, beq_iff_eq, bne_iff_ne] at hc1
      obtain ⟨so, rfl, hat⟩ := h.at_ (by omega)
      obtain ⟨d, hd⟩ : ∃ d, ops[z.i]? = some d := ⟨_, List.getElem?_eq_getElem (by omega)⟩
      have hqv := hat z.i d hd
      have hdm := List.mem_of_getElem? hd
      have hdok := h.ok d hdm
      have hds := h.sm d hdm
      have hm := hpre.1 (by omega)
      have hms := hpre.2 d hdm
      simp only [DO.vals] at hqv
      refine wp_skip ?_
      refine then_normal ?_
      refine c_seq ?_
      refine wp_block ?_
      refine c_seq ?_
      refine c_region ?_
      refine wl (wl_val hl rfl trivial (r_move hl rfl) ?_)
      clear hl a; intro a hl
      refine wl (wl_val hl rfl trivial (r_move hl rfl) ?_)
      clear hl a; intro a hl
      refine wl (wl_val hl rfl trivial (r_move hl rfl) ?_)
      clear hl a; intro a hl
      refine wl (wl_val hl rfl trivial (r_indexS hl rfl rfl slc22 (by omega) (by omega) (by first | (simp only [Int.reduceToNat]; rfl) | exact toNat_add1 _ | exact toNat_add2 _ _ | exact toNat_emod _ _ | exact Int.toNat_natCast _ | rfl)) ?_)
      clear hl a; intro a hl
      refine wl (wl_val hl rfl trivial (r_field hl rfl fld38_6) ?_)
      clear hl a; intro a hl
      first | refine wl (w_load hl hh rfl trivial one36 rfl (by repeat (first | exact find_head | apply find_tail)) (by first | rfl) ?_) | refine wl (w_loadR hl hh rfl trivial one36 rfl hm (by simp) (getElem?_of_take hqv (k := 15) rfl) ?_)
      clear hl a; intro a hl
      refine wl (wl_val hl rfl trivial (r_lenS hl rfl slc36) ?_)
      clear hl a; intro a hl
      first | refine wl (wl_val hl rfl trivial (r_add hl rfl rfl (by simp only [Fits]; omega)) ?_) | refine wl (wl_val hl rfl trivial (r_addW hl rfl rfl) ?_)
      clear hl a; intro a hl
      refine wl (wl_val hl rfl trivial (r_assign hl rfl) ?_)
      clear hl a; intro a hl
      refine w_nil ?_
      have hl2 := hl.add (t := 0) (hl.add (t := 3) (hl.add (t := 4) (hl.nil) rfl) rfl) rfl; clear hl; have hl := hl2; clear hl2
      refine then_normal ?_
      refine c_seq ?_
      refine c_region ?_
      refine wl (wl_val hl rfl trivial (r_move hl rfl) ?_)
      clear hl a; intro a hl
      refine wl (wl_val hl rfl trivial (r_gtr hl rfl rfl) ?_)
      clear hl a; intro a hl
      refine w_nil ?_
      have hl2 := hl.add (t := 0) (hl.add (t := 3) (hl.add (t := 4) (hl.add (t := 24) (hl.nil) rfl) rfl) rfl) rfl; clear hl; have hl := hl2; clear hl2
      refine then_normal ?_
      refine c_cond hl rfl ?_ ?_
      · intro hc2
        try simp only [decide_eq_true_eq, decide_eq_false_iff_not, Bool.not_eq_true', Bool.not_eq_false', Bool.not_eq_true, Bool.not_eq_false, Bool.and_eq_true, Bool.or_eq_true, Bool.and_eq_false_iff, Bool.or_eq_false_iff, Bool.not_not, ne_eq, Int.not_lt, Int.not_le, Decidable.not_not, beq_iff_eq, bne_iff_ne] at hc2
        refine c_seq ?_
        refine c_region ?_
        refine wl (wl_val hl rfl trivial (r_assign hl rfl) ?_)
        clear hl a; intro a hl
        refine w_nil ?_
        have hl2 := hl.add (t := 2) (hl.nil) rfl; clear hl; have hl := hl2; clear hl2
        refine then_normal ?_
        refine wp_ret ?_
        refine blk_ret ?_
        refine then_ret ?_
        refine then_ret ?_
        refine blk_ret ?_
        refine then_ret ?_
        refine f_ret1 (F' := []) hl hh rfl rfl (by repeat (first | exact keeps_nil | apply keeps_cons (by repeat (first | exact find_head | apply find_tail)) (by first  | rfl) | exact keeps_self | apply keeps_mv)) ?_
        exact .inl ⟨rfl, rfl⟩
      · intro hc2
        try simp only [decide_eq_true_eq, decide_eq_false_iff_not, Bool.not_eq_true', Bool.not_eq_false', Bool.not_eq_true, Bool.not_eq_false, Bool.and_eq_true, Bool.or_eq_true, Bool.and_eq_false_iff, Bool.or_eq_false_iff, Bool.not_not, ne_eq, Int.not_lt, Int.not_le, Decidable.not_not, beq_iff_eq, bne_iff_ne] at hc2
        refine wp_skip ?_
        refine blk_normal ?_
        refine then_normal ?_
        refine c_region ?_
        refine wl (wl_val hl rfl trivial (r_move hl rfl) ?_)
        clear hl a; intro a hl
        first | refine wl (wl_val hl rfl trivial (r_add hl rfl rfl (by simp only [Fits]; omega)) ?_) | refine wl (wl_val hl rfl trivial (r_addW hl rfl rfl) ?_)
        clear hl a; intro a hl
        refine wl (wl_val hl rfl trivial (r_assign hl rfl) ?_)
        clear hl a; intro a hl
        refine w_nil ?_
        have hl2 := hl.add (t := 0) (hl.add (t := 3) (hl.add (t := 4) (hl.nil) rfl) rfl) rfl; clear hl; have hl := hl2; clear hl2
        refine then_normal ?_
        refine ⟨⟨z.i + 1, z.n + (d.dat.length : Int)⟩, (by simp only; omega), ⟨⟨by simp only; omega, by simp only; omega, by simp only; omega⟩, fun j o hj ho => by
              rcases Nat.lt_or_ge j z.i with hlt | hge
              · have := hall j o hlt ho; simp only; omega
              · have hji : j = z.i := by simp only at hj; omega
                rw [hji, hd] at ho; injection ho with ho; subst ho; simp only; omega⟩, hl.addE (t := 4) (hl.addE (t := 3) (hl.addE (t := 0) (hl.nil) rfl (by first | rfl | exact congrArg (Value.int .i64) (i_succ z.i))) rfl (by first | rfl | exact congrArg (Value.int .i64) (i_succ z.i))) rfl (by first | rfl | exact congrArg (Value.int .i64) (i_succ z.i)), hh.keep (by repeat (first | exact keeps_nil | apply keeps_cons (by repeat (first | exact find_head | apply find_tail)) (by first  | rfl) | exact keeps_self | apply keeps_mv))⟩
    · intro hc1
      try simp only [decide_eq_true_eq, decide_eq_false_iff_not, Bool.not_eq_true', Bool.not_eq_false', Bool.not_eq_true, Bool.not_eq_false, Bool.and_eq_true, Bool.or_eq_true, Bool.and_eq_false_iff, Bool.or_eq_false_iff, Bool.not_not, ne_eq, Int.not_lt, Int.not_le, Decidable.not_not, beq_iff_eq, bne_iff_ne] at hc1
      have hfin : ∀ o, o ∈ ops → o.dat.length ≤ 65536 := fun o ho => by
        obtain ⟨j, hj, rfl⟩ := List.getElem_of_mem ho
        have := hall j _ (by omega) (List.getElem?_eq_getElem hj)
        omega
      refine wp_exit ?_
      refine then_exit ?_
      refine then_exit ?_
      refine blk_exit ?_
      refine then_normal ?_
      refine c_seq ?_
      refine c_region ?_
      refine wl (wl_val hl rfl trivial (r_assign hl rfl) ?_)
      clear hl a; intro a hl
      refine w_nil ?_
      have hl2 := hl.add (t := 2) (hl.nil) rfl; clear hl; have hl := hl2; clear hl2
      refine then_normal ?_
      refine wp_ret ?_
      refine f_ret1 (F' := []) hl hh rfl rfl (by repeat (first | exact keeps_nil | apply keeps_cons (by repeat (first | exact find_head | apply find_tail)) (by first  | rfl) | exact keeps_self | apply keeps_mv)) ?_
      exact .inr ⟨⟨rfl, hfin⟩, rfl⟩

set_option maxHeartbeats 1000000 in
theorem newBench_spec (gT : TypeId) (gv : Value) (GT : TypeId) (gf : Nat × Nat) (HT : TypeId) (hf : Nat × Nat) : SpK Tryd.prog 24 #[] (fun w => w.heap[0]? = some (.cells ⟨cfL cfg0⟩ HT hf) ∧ w.heap[1]? = some (.cells ⟨[.iface gT gv]⟩ GT gf)) [] (fun v F' => ∃ bp, v = .pointer (some ⟨bp, 0, none⟩) ∧ WB F' bp ⟨cfg0, newP cfg0, []⟩) := by
  refine f_enter (args := []) Tryd.func24 rfl Tryd.ntmps24 rfl ?_
  intro w0 w a hpre hl hh
  have hg0 := hpre.1; have hg1 := hpre.2
  simp only [slotsFrom, Nat.reduceAdd] at hl
  refine c_seq ?_
  refine c_region ?_
  refine wl (wl_val hl rfl trivial (r_assign hl rfl) ?_)
  clear hl a; intro a hl
  refine w_nil ?_
  have hl2 := hl.nil; clear hl; have hl := hl2; clear hl2
  refine then_normal ?_
  refine c_seq ?_
  refine c_region ?_
  first | refine wl (w_loadA hl hh rfl trivial agg34 rfl (by repeat (first | exact find_head | apply find_tail)) (by first | (simp only [List.getElem?_cons_zero, List.getElem?_cons_succ, Value.cells, List.take_zero, List.take_succ_cons, List.take_nil, List.drop_zero, List.drop_succ_cons, List.drop_nil, List.length_cons, List.length_nil, List.cons_append, List.nil_append, List.append_nil, Nat.zero_add, Nat.add_zero, Nat.reduceAdd, Nat.reduceBEq, Nat.reduceEqDiff, Nat.ble, BEq.rfl, Bool.and_true, Bool.and_self, cond_true, beq_self_eq_true]; rfl)) (by first | rfl | (simp; done)) ?_) | refine wl (w_loadRA hl hh rfl trivial agg34 rfl hg0 (by simp) rfl rfl ?_)
  clear hl a; intro a hl
  refine wl (w_call hl hh rfl trivial rfl cal31 rfl (new_cm cfg0 cfg0_ok gT gv GT gf) (by repeat (first | exact keeps_nil | apply keeps_cons (by repeat (first | exact find_head | apply find_tail)) (by first  | rfl) | exact keeps_self | exact keeps_left | exact keeps_right | exact keeps_swap | apply keeps_mv)) (heap_keep hh hg1) ?_)
  clear hl hh a w; intro vc Fc a w hR hl hh
  rcases hR with ⟨hcv, rfl, rfl⟩ | ⟨hcv, cp, rfl, hcm⟩
  ·
    try simp only [List.cons_append, List.nil_append, List.append_nil] at hh
    exact absurd cfg0_cv hcv
  ·
    try simp only [List.cons_append, List.nil_append, List.append_nil] at hh
    refine wl (wl_val hl rfl trivial (r_move hl rfl) ?_)
    clear hl a; intro a hl
    refine wl (wl_val hl rfl trivial (r_extract hl rfl (by simp only [List.getElem?_toArray, List.getElem?_cons_zero, List.getElem?_cons_succ]; rfl)) ?_)
    clear hl a; intro a hl
    refine wl (wl_val hl rfl trivial (r_extract hl rfl (by simp only [List.getElem?_toArray, List.getElem?_cons_zero, List.getElem?_cons_succ]; rfl)) ?_)
    clear hl a; intro a hl
    refine wl (wl_val hl rfl trivial (r_assign hl rfl) ?_)
    clear hl a; intro a hl
    refine wl (wl_val hl rfl trivial (r_assign hl rfl) ?_)
    clear hl a; intro a hl
    refine w_nil ?_
    have hl2 := hl.add (t := 1) (hl.nil) rfl; clear hl; have hl := hl2; clear hl2
    refine then_normal ?_
    refine c_seq ?_
    refine c_region ?_
    refine wl (wl_val hl rfl trivial (r_move hl rfl) ?_)
    clear hl a; intro a hl
    first | refine wl (w_loadA hl hh rfl trivial agg34 rfl (by repeat (first | exact find_head | apply find_tail)) (by first | (simp only [List.getElem?_cons_zero, List.getElem?_cons_succ, Value.cells, List.take_zero, List.take_succ_cons, List.take_nil, List.drop_zero, List.drop_succ_cons, List.drop_nil, List.length_cons, List.length_nil, List.cons_append, List.nil_append, List.append_nil, Nat.zero_add, Nat.add_zero, Nat.reduceAdd, Nat.reduceBEq, Nat.reduceEqDiff, Nat.ble, BEq.rfl, Bool.and_true, Bool.and_self, cond_true, beq_self_eq_true]; rfl)) (by first | rfl | (simp; done)) ?_) | refine wl (w_loadRA hl hh rfl trivial agg34 rfl hg0 (by simp) rfl rfl ?_)
    clear hl a; intro a hl
    refine wl (wl_val hl rfl trivial (r_build hl rfl zero41 bld41 (by simp only [fillL, setL, List.getElem?_cons_zero, List.getElem?_cons_succ, Value.cells, List.take_zero, List.take_succ_cons, List.take_nil, List.drop_zero, List.drop_succ_cons, List.drop_nil, List.length_cons, List.length_nil, List.cons_append, List.nil_append, List.append_nil, Nat.zero_add, Nat.add_zero, Nat.reduceAdd, Nat.reduceBEq, Nat.reduceEqDiff, Nat.ble, BEq.rfl, Bool.and_true, Bool.and_self, cond_true, beq_self_eq_true]; rfl)) ?_)
    clear hl a; intro a hl
    refine wl (w_box hl hh rfl trivial rfl rfl ?_)
    clear hl hh a w; intro k11 a w hl hh
    refine wl (wl_val hl rfl trivial (r_assign hl rfl) ?_)
    clear hl a; intro a hl
    refine w_nil ?_
    have hl2 := hl.add (t := 0) (hl.nil) rfl; clear hl; have hl := hl2; clear hl2
    refine then_normal ?_
    refine wp_ret ?_
    refine f_ret1 (F' := (k11, C (.pointer (some ⟨cp, 0, none⟩) :: cfL cfg0) 41) :: Fc) hl hh rfl rfl (by repeat (first | exact keeps_nil | apply keeps_cons (by repeat (first | exact find_head | apply find_tail)) (by first  | rfl) | exact keeps_self | exact keeps_left | exact keeps_right | exact keeps_swap | apply keeps_mv)) ?_
    exact ⟨k11, rfl, cp, Fc, hcm, rfl⟩
end Go.Proofs.Qxb6500912aDoor

import Derived.Test.Qxb6500915aB0
namespace Go.Proofs.Qxb6500915a
open Go.Eng
set_option linter.unusedVariables false
set_option linter.unusedSimpArgs false
theorem fld24_0 : fieldOk Try.prog 24 0 0 = true := by kernel_rfl
theorem fld24_1 : fieldOk Try.prog 24 1 1 = true := by kernel_rfl
theorem one22 : oneOk Try.prog 22 = true := by kernel_rfl
theorem slc22 : slcOk Try.prog 22 4 = true := by kernel_rfl
theorem mixed : Try.prog.follows .mixedOrders = true := by kernel_rfl
theorem agg30 : aggOk Try.prog 30 4 = true := by kernel_rfl
theorem cal20 : callable Try.prog 20 = true := by kernel_rfl
theorem fld34_0 : fieldOk Try.prog 34 0 0 = true := by kernel_rfl
theorem one31 : oneOk Try.prog 31 = true := by kernel_rfl
theorem cal12 : callable Try.prog 12 = true := by kernel_rfl
theorem fld34_1 : fieldOk Try.prog 34 1 1 = true := by kernel_rfl
theorem one32 : oneOk Try.prog 32 = true := by kernel_rfl
theorem cal13 : callable Try.prog 13 = true := by kernel_rfl
theorem fld34_2 : fieldOk Try.prog 34 2 2 = true := by kernel_rfl
theorem agg24 : aggOk Try.prog 24 2 = true := by kernel_rfl
theorem cal14 : callable Try.prog 14 = true := by kernel_rfl
def es : ByteArray := ⟨#[101]⟩
def tc (x : Int) : List Value := [.int .u8 0, .int .i64 x, .int .i64 0, .string ⟨#[]⟩]
def iI (x : Int) : List Value := [.int .i64 x]
def uI (x : Int) : List Value := [.int .u64 x]
theorem tc_len (x : Int) : (tc x).length = 4 := rfl
theorem iI_len (x : Int) : (iI x).length = 1 := rfl
theorem uI_len (x : Int) : (uI x).length = 1 := rfl
theorem tc_one (x : Int) : (tc x).all (·.oneCell') = true := rfl
theorem iI_one (x : Int) : (iI x).all (·.oneCell') = true := rfl
def cmp2 (x1 y1 x2 y2 : Int) : Int := if cmpI x1 x2 = 0 then cmpI y1 y2 else cmpI x1 x2
theorem row_val {v : Value} {n : Nat} {xs : List Value} {size : Nat} {e : TypeId} {E : List (Nat × Obj)} (h : Row v n xs size e E) : ∃ p c, v = .slice p n c := by
  rcases h with ⟨rfl, rfl, _⟩ | ⟨b, cap, junk, rfl, _⟩
  · exact ⟨_, _, rfl⟩
  · exact ⟨_, _, rfl⟩
theorem row_pos {p : Option Addr} {n cap size : Nat} {xs : List Value} {e : TypeId} {E : List (Nat × Obj)} (h : Row (.slice p n cap) n xs size e E) (h0 : 0 < n) : ∃ b junk, p = some ⟨b, 0, none⟩ ∧ (xs ++ junk).length = cap * size ∧ n ≤ cap ∧ E = [(b, C (xs ++ junk) e)] := by
  rcases h with ⟨_, h2, _, _⟩ | ⟨b, cap', junk, h1, _, h3, h4, h5⟩
  · omega
  · injection h1 with e1 _ e2
    subst e2
    exact ⟨b, junk, e1, h3, h4, h5⟩
theorem mem_keep {w0 w : World} {F Sc : List (Nat × Obj)} (hh : Has [] w0 F w) (h : Mem Sc w0) : Mem Sc w := fun b o m =>
  (hh.frm.block b (Array.getElem?_eq_some_iff.1 (h b o m)).1 (by simp)).trans (h b o m)
theorem heap_keep {w0 w : World} {F : List (Nat × Obj)} {b : Nat} {o : Obj} (hh : Has [] w0 F w) (h : w0.heap[b]? = some o) : w.heap[b]? = some o :=
  (hh.frm.block b (Array.getElem?_eq_some_iff.1 h).1 (by simp)).trans h
theorem fl_set {α : Type} {f : α → List Value} {s : Nat} (hs : ∀ a, (f a).length = s) (l : List α) (c : α) (junk : List Value) (i : Nat) (h : i < l.length) : setL (fl f l ++ junk) (0 + i * s) (f c) = fl f (l.set i c) ++ junk := by
  have hA : (fl f (l.take i)).length = i * s := by rw [fl_len hs, List.length_take]; congr 1; omega
  have h1 : fl f l = fl f (l.take i) ++ f l[i] ++ fl f (l.drop (i + 1)) := by rw [fl_split l i, List.drop_eq_getElem_cons h, fl_cons]; simp
  have h2 : fl f (l.set i c) = fl f (l.take i) ++ f c ++ fl f (l.drop (i + 1)) := by rw [List.set_eq_take_append_cons_drop, if_pos h, fl_append, fl_cons]; simp
  rw [h1, h2, Nat.zero_add, ← hA, List.append_assoc (fl f (l.take i) ++ f l[i]), setL_mid _ _ _ _ (by rw [hs, hs])]
  simp
theorem fl_get1 {f : Int → List Value} {g : Int → Value} (hf : ∀ x, f x = [g x]) {l : List Int} {i : Nat} {x : Int} (h : l[i]? = some x) (junk : List Value) : (fl f l ++ junk)[0 + i * 1]? = some (g x) := by
  have h1 := fl_at (f := f) (s := 1) (fun a => by rw [hf]; rfl) h junk
  rw [hf] at h1
  have h2 : (((fl f l ++ junk).drop (0 + i * 1)).take 1)[0]? = some (g x) := by rw [h1]; rfl
  rw [List.getElem?_take, if_pos (by decide), List.getElem?_drop] at h2
  exact h2
/-- one variable read -/
def rd1 (s : List Int × Int × List Int) (v : Nat) : List Int × Int × List Int :=
  match s.1[v]? with
  | some x => if x = -1 then (s.1.set v s.2.1, s.2.1 + 1, s.2.2 ++ [s.2.1]) else (s.1, s.2.1, s.2.2 ++ [x])
  | none => s
def rdP (num : List Int) (nx : Int) (ts : List Nat) : List Int × Int × List Int := ts.foldl rd1 (num, nx, [])
theorem rdP_snoc (num : List Int) (nx : Int) (ts : List Nat) (v : Nat) : rdP num nx (ts ++ [v]) = rd1 (rdP num nx ts) v := by unfold rdP; rw [List.foldl_append]; rfl
theorem take_snoc {ts : List Nat} {i v : Nat} (h : ts[i]? = some v) : ts.take (i + 1) = ts.take i ++ [v] := by rw [List.take_add_one, h]; rfl
theorem rd1_yes {s : List Int × Int × List Int} {v : Nat} {x : Int} (h : s.1[v]? = some x) (hx : x = -1) : rd1 s v = (s.1.set v s.2.1, s.2.1 + 1, s.2.2 ++ [s.2.1]) := by unfold rd1; rw [h]; simp [hx]
theorem rd1_no {s : List Int × Int × List Int} {v : Nat} {x : Int} (h : s.1[v]? = some x) (hx : ¬ x = -1) : rd1 s v = (s.1, s.2.1, s.2.2 ++ [x]) := by unfold rd1; rw [h]; simp [hx]
structure RR where
  i : Nat
  num : List Int
  nx : Int
  out : List Int
  jo : List Value
structure RRI (num : List Int) (nx : Int) (ts : List Nat) (s : RR) : Prop where
  hi : s.i ≤ ts.length
  st : rdP num nx (ts.take s.i) = (s.num, s.nx, s.out)
  ol : s.out.length = s.i
  nl : s.num.length = num.length
  nxb : nx ≤ s.nx ∧ s.nx ≤ nx + s.i
  jl : (fl tc s.out ++ s.jo).length = ts.length * 4
theorem app_set {α : Type} {f : α → List Value} {s : Nat} (hs : ∀ a, (f a).length = s) (l : List α) (c : α) (junk : List Value) (h : s ≤ junk.length) : setL (fl f l ++ junk) (0 + l.length * s) (f c) = fl f (l ++ [c]) ++ junk.drop s := by
  have hl := fl_len hs l
  have e : fl f l ++ junk = fl f l ++ junk.take s ++ junk.drop s := by rw [List.append_assoc, List.take_append_drop]
  rw [e, Nat.zero_add, ← hl, setL_mid _ _ _ _ (by rw [hs, List.length_take]; omega), fl_append]
  simp [fl]
theorem app_len {α : Type} {f : α → List Value} {s : Nat} (hs : ∀ a, (f a).length = s) (l : List α) (c : α) (junk : List Value) (h : s ≤ junk.length) : (fl f (l ++ [c]) ++ junk.drop s).length = (fl f l ++ junk).length := by
  rw [fl_append, List.length_append, List.length_append, List.length_append, List.length_drop, fl_len hs, fl_len hs]
  simp only [List.length_singleton]; omega
theorem app_tc {l : List Int} {jo : List Value} {i : Nat} (h : l.length = i) (hj : 4 ≤ jo.length) (x : Int) : setL (fl tc l ++ jo) (0 + i * 4) [.int .u8 0, .int .i64 x, .int .i64 0, .string ⟨#[]⟩] = fl tc (l ++ [x]) ++ jo.drop 4 := by
  subst h; exact app_set tc_len l x jo hj


set_option maxHeartbeats 1000000 in
theorem cmpA (b1 b2 c1 c2 : Nat) (x1 y1 x2 y2 : Int) (j1 j2 : List Value) : SpK Try.prog 14 #[.agg ⟨[.string es, .slice (some ⟨b1, 0, none⟩) 2 c1]⟩, .agg ⟨[.string es, .slice (some ⟨b2, 0, none⟩) 2 c2]⟩] (fun w => w.heap[b1]? = some (C (fl tc [x1, y1] ++ j1) 30) ∧ w.heap[b2]? = some (C (fl tc [x2, y2] ++ j2) 30)) [] (fun v F' => v = .int .i64 (cmp2 x1 y1 x2 y2) ∧ F' = []) := by
  refine f_enter (args := [.agg ⟨[.string es, .slice (some ⟨b1, 0, none⟩) 2 c1]⟩, .agg ⟨[.string es, .slice (some ⟨b2, 0, none⟩) 2 c2]⟩]) Try.func14 rfl Try.ntmps14 rfl ?_
  intro w0 w a hpre hl hh
  have hm1 := hpre.1; have hm2 := hpre.2
  simp only [slotsFrom, Nat.reduceAdd] at hl
  refine c_seq ?_
  refine c_region ?_
  refine wl (w_box hl hh rfl trivial rfl rfl ?_)
  clear hl hh a w; intro k2 a w hl hh
  refine wl (w_box hl hh rfl trivial rfl rfl ?_)
  clear hl hh a w; intro k3 a w hl hh
  refine wl (wl_val hl rfl trivial (r_assign hl rfl) ?_)
  clear hl a; intro a hl
  refine w_nil ?_
  have hl2 := hl.add (t := 2) (hl.add (t := 3) (hl.nil) rfl) rfl; clear hl; have hl := hl2; clear hl2
  refine then_normal ?_
  refine c_seq ?_
  refine c_seq ?_
  refine c_region ?_
  refine wl (wl_val hl rfl trivial (r_field hl rfl fld24_0) ?_)
  clear hl a; intro a hl
  refine wl (w_load hl hh rfl trivial one9 rfl (by repeat (first | exact find_head | apply find_tail)) (by first | rfl) ?_)
  clear hl a; intro a hl
  refine wl (wl_val hl rfl trivial (r_field hl rfl fld24_0) ?_)
  clear hl a; intro a hl
  refine wl (w_load hl hh rfl trivial one9 rfl (by repeat (first | exact find_head | apply find_tail)) (by first | rfl) ?_)
  clear hl a; intro a hl
  refine wl (w_call hl hh rfl trivial rfl cal18 rfl (cmpS es) (by repeat (first | exact keeps_nil | apply keeps_cons (by repeat (first | exact find_head | apply find_tail)) (by first  | rfl) | exact keeps_self | apply keeps_mv)) trivial ?_)
  clear hl hh a w; intro vc Fc a w hR hl hh
  obtain ⟨rfl, rfl⟩ := hR
  try simp only [List.cons_append, List.nil_append] at hh
  refine wl (wl_val hl rfl trivial (r_assign hl rfl) ?_)
  clear hl a; intro a hl
  refine w_nil ?_
  have hl2 := hl.add (t := 2) (hl.add (t := 3) (hl.add (t := 5) (hl.nil) rfl) rfl) rfl; clear hl; have hl := hl2; clear hl2
  refine then_normal ?_
  refine c_seq ?_
  refine c_region ?_
  refine wl (wl_val hl rfl trivial (r_move hl rfl) ?_)
  clear hl a; intro a hl
  refine wl (wl_val hl rfl trivial (r_neq hl rfl rfl) ?_)
  clear hl a; intro a hl
  refine w_nil ?_
  have hl2 := hl.add (t := 2) (hl.add (t := 3) (hl.add (t := 5) (hl.add (t := 15) (hl.nil) rfl) rfl) rfl) rfl; clear hl; have hl := hl2; clear hl2
  refine then_normal ?_
  refine c_cond hl rfl ?_ ?_
  · intro hc0
    try simp only [decide_eq_true_eq, decide_eq_false_iff_not, Bool.not_eq_true', Bool.not_eq_false', Bool.not_eq_true, Bool.not_eq_false, Bool.and_eq_true, Bool.or_eq_true, Bool.and_eq_false_iff, Bool.or_eq_false_iff, Bool.not_not, ne_eq, Int.not_lt, Int.not_le, Decidable.not_not, beq_iff_eq, bne_iff_ne] at hc0
    exfalso; first | contradiction | omega
  · intro hc0
    try simp only [decide_eq_true_eq, decide_eq_false_iff_not, Bool.not_eq_true', Bool.not_eq_false', Bool.not_eq_true, Bool.not_eq_false, Bool.and_eq_true, Bool.or_eq_true, Bool.and_eq_false_iff, Bool.or_eq_false_iff, Bool.not_not, ne_eq, Int.not_lt, Int.not_le, Decidable.not_not, beq_iff_eq, bne_iff_ne] at hc0
    refine wp_skip ?_
    refine then_normal ?_
    refine c_seq ?_
    refine c_seq ?_
    refine c_region ?_
    refine wl (wl_val hl rfl trivial (r_field hl rfl fld24_1) ?_)
    clear hl a; intro a hl
    refine wl (w_load hl hh rfl trivial one22 rfl (by repeat (first | exact find_head | apply find_tail)) (by first | rfl) ?_)
    clear hl a; intro a hl
    refine wl (wl_val hl rfl trivial (r_lenS hl rfl slc22) ?_)
    clear hl a; intro a hl
    refine wl (wl_val hl rfl trivial (r_field hl rfl fld24_1) ?_)
    clear hl a; intro a hl
    refine wl (w_load hl hh rfl trivial one22 rfl (by repeat (first | exact find_head | apply find_tail)) (by first | rfl) ?_)
    clear hl a; intro a hl
    refine wl (wl_val hl rfl trivial (r_lenS hl rfl slc22) ?_)
    clear hl a; intro a hl
    refine wl (w_call hl hh rfl trivial rfl cal19 rfl (cmp19 2 2) (by repeat (first | exact keeps_nil | apply keeps_cons (by repeat (first | exact find_head | apply find_tail)) (by first  | rfl) | exact keeps_self | apply keeps_mv)) trivial ?_)
    clear hl hh a w; intro vc Fc a w hR hl hh
    obtain ⟨rfl, rfl⟩ := hR
    try simp only [List.cons_append, List.nil_append] at hh
    rw [show cmpI 2 2 = 0 from rfl] at hl
    refine wl (wl_val hl rfl trivial (r_assign hl rfl) ?_)
    clear hl a; intro a hl
    refine w_nil ?_
    have hl2 := hl.add (t := 2) (hl.add (t := 3) (hl.add (t := 6) (hl.nil) rfl) rfl) rfl; clear hl; have hl := hl2; clear hl2
    refine then_normal ?_
    refine c_seq ?_
    refine c_region ?_
    refine wl (wl_val hl rfl trivial (r_move hl rfl) ?_)
    clear hl a; intro a hl
    refine wl (wl_val hl rfl trivial (r_neq hl rfl rfl) ?_)
    clear hl a; intro a hl
    refine w_nil ?_
    have hl2 := hl.add (t := 2) (hl.add (t := 3) (hl.add (t := 6) (hl.add (t := 25) (hl.nil) rfl) rfl) rfl) rfl; clear hl; have hl := hl2; clear hl2
    refine then_normal ?_
    refine c_cond hl rfl ?_ ?_
    · intro hc1
      try simp only [decide_eq_true_eq, decide_eq_false_iff_not, Bool.not_eq_true', Bool.not_eq_false', Bool.not_eq_true, Bool.not_eq_false, Bool.and_eq_true, Bool.or_eq_true, Bool.and_eq_false_iff, Bool.or_eq_false_iff, Bool.not_not, ne_eq, Int.not_lt, Int.not_le, Decidable.not_not, beq_iff_eq, bne_iff_ne] at hc1
      exfalso; first | contradiction | omega
    · intro hc1
      try simp only [decide_eq_true_eq, decide_eq_false_iff_not, Bool.not_eq_true', Bool.not_eq_false', Bool.not_eq_true, Bool.not_eq_false, Bool.and_eq_true, Bool.or_eq_true, Bool.and_eq_false_iff, Bool.or_eq_false_iff, Bool.not_not, ne_eq, Int.not_lt, Int.not_le, Decidable.not_not, beq_iff_eq, bne_iff_ne] at hc1
      refine wp_skip ?_
      refine then_normal ?_
      refine c_seq ?_
      refine c_seq ?_
      refine c_region ?_
      refine wl (wl_val hl rfl trivial (r_field hl rfl fld24_1) ?_)
      clear hl a; intro a hl
      refine wl (w_load hl hh rfl trivial one22 rfl (by repeat (first | exact find_head | apply find_tail)) (by first | rfl) ?_)
      clear hl a; intro a hl
      refine wl (wl_val hl rfl trivial (r_lenS hl rfl slc22) ?_)
      clear hl a; intro a hl
      refine wl (wl_val hl rfl trivial (r_move hl rfl) ?_)
      clear hl a; intro a hl
      refine w_nil ?_
      have hl2 := hl.add (t := 2) (hl.add (t := 3) (hl.add (t := 29) (hl.add (t := 30) (hl.nil) rfl) rfl) rfl) rfl; clear hl; have hl := hl2; clear hl2
      refine then_normal ?_
      refine wp_block ?_
      obtain ⟨KS0, hKS0, hk⟩ := (hl.add (t := 2) (hl.add (t := 3) (hl.add (t := 29) (hl.nil) rfl) rfl) rfl).name
      obtain ⟨HS0, hHS0, hh2⟩ := hh.name (keeps_cons (b := k2) (by repeat (first | exact find_head | apply find_tail)) (by first | rfl) (keeps_cons (b := k3) (by repeat (first | exact find_head | apply find_tail)) (by first | rfl) (keeps_nil)))
      refine c_loop (α := Nat) (fun i => 2 - i) (fun i a w => (i ≤ 2 ∧ (1 ≤ i → cmpI x1 x2 = 0) ∧ (2 ≤ i → cmpI y1 y2 = 0)) ∧ Sl 48 ([(30, .int .i64 (i : Int))] ++ KS0) a ∧ Has _ w0 ([(k2, C [.string es, .slice (some ⟨b1, 0, none⟩) 2 c1] 24), (k3, C [.string es, .slice (some ⟨b2, 0, none⟩) 2 c2] 24)] ++ HS0) w) 0 ⟨⟨by omega, fun h => absurd h (by omega), fun h => absurd h (by omega)⟩, hl.addE (t := 30) (hk) rfl (by first | rfl), hh2⟩ ?_
      clear hk hh2 hl hh a w
      intro i a w hI
      obtain ⟨⟨hi, hi1, hi2⟩, hl, hh⟩ := hI
      subst hKS0; subst hHS0
      simp only [List.cons_append, List.nil_append, List.append_nil] at hl hh
      refine c_seq ?_
      refine c_region ?_
      refine wl (wl_val hl rfl trivial (r_lss hl rfl rfl) ?_)
      clear hl a; intro a hl
      refine w_nil ?_
      have hl2 := hl.add (t := 2) (hl.add (t := 3) (hl.add (t := 29) (hl.add (t := 30) (hl.add (t := 31) (hl.nil) rfl) rfl) rfl) rfl) rfl; clear hl; have hl := hl2; clear hl2
      refine then_normal ?_
      refine c_seq ?_
      refine c_cond hl rfl ?_ ?_
      · intro hc2
        try simp only [decide_eq_true_eq, decide_eq_false_iff_not, Bool.not_eq_true', Bool.not_eq_false', Bool.not_eq_true, Bool.not_eq_false, Bool.and_eq_true, Bool.or_eq_true, Bool.and_eq_false_iff, Bool.or_eq_false_iff, Bool.not_not, ne_eq, Int.not_lt, Int.not_le, Decidable.not_not, beq_iff_eq, bne_iff_ne] at hc2
        obtain ⟨v1, hv1⟩ : ∃ v, [x1, y1][i]? = some v := ⟨_, List.getElem?_eq_getElem (by simp; omega)⟩
        obtain ⟨v2, hv2⟩ : ∃ v, [x2, y2][i]? = some v := ⟨_, List.getElem?_eq_getElem (by simp; omega)⟩
        have hq1 := fl_at tc_len hv1 j1
        have hq2 := fl_at tc_len hv2 j2
        simp only [tc] at hq1 hq2
        refine wp_skip ?_
        refine then_normal ?_
        refine c_seq ?_
        refine wp_block ?_
        refine c_seq ?_
        refine c_region ?_
        refine wl (wl_val hl rfl trivial (r_move hl rfl) ?_)
        clear hl a; intro a hl
        refine wl (wl_val hl rfl trivial (r_assign hl rfl) ?_)
        clear hl a; intro a hl
        refine w_nil ?_
        have hl2 := hl.add (t := 2) (hl.add (t := 3) (hl.add (t := 7) (hl.add (t := 29) (hl.add (t := 30) (hl.nil) rfl) rfl) rfl) rfl) rfl; clear hl; have hl := hl2; clear hl2
        refine then_normal ?_
        refine c_seq ?_
        refine c_draw [(k2, C [.string es, .slice (some ⟨b1, 0, none⟩) 2 c1] 24), (k3, C [.string es, .slice (some ⟨b2, 0, none⟩) 2 c2] 24), (b1, C (fl tc [x1, y1] ++ j1) 30), (b2, C (fl tc [x2, y2] ++ j2) 30)] [10, 11] mixed hh ?_
        clear hh w; intro w hh
        have hM : Mem [(k2, C [.string es, .slice (some ⟨b1, 0, none⟩) 2 c1] 24), (k3, C [.string es, .slice (some ⟨b2, 0, none⟩) 2 c2] 24), (b1, C (fl tc [x1, y1] ++ j1) 30), (b2, C (fl tc [x2, y2] ++ j2) 30)] w := (by repeat (first | exact Mem.nil | refine Mem.consR hh (by assumption) (by simp) ?_ | refine Mem.cons hh.mem (by repeat (first | exact find_head | apply find_tail)) ?_))
        refine d_take (i := 0) hl rfl (by kernel_rfl) (by kernel_rfl) (by kernel_rfl) (by kernel_rfl) (by kernel_rfl) rfl trivial (fun _ _ _ h => h) hM (fun w hC => r_field hl rfl fld24_1) rfl ?_
        clear hl a; intro a hl
        refine d_take (i := 1) hl rfl (by kernel_rfl) (by kernel_rfl) (by kernel_rfl) (by kernel_rfl) (by kernel_rfl) rfl trivial (fun _ _ _ h => h) hM (fun w hC => r_loadC hl rfl one22 hC (by repeat (first | exact find_head | apply find_tail)) (by first | rfl)) rfl ?_
        clear hl a; intro a hl
        refine d_take (i := 2) hl rfl (by kernel_rfl) (by kernel_rfl) (by kernel_rfl) (by kernel_rfl) (by kernel_rfl) rfl trivial (fun _ _ _ h => h) hM (fun w hC => r_move hl rfl) rfl ?_
        clear hl a; intro a hl
        refine d_take (i := 3) hl rfl (by kernel_rfl) (by kernel_rfl) (by kernel_rfl) (by kernel_rfl) (by kernel_rfl) rfl trivial (fun _ _ _ h => h) hM (fun w hC => r_indexS hl rfl rfl slc22 (by omega) (by omega) (by first | (simp only [Int.reduceToNat]; rfl) | exact toNat_add1 _ | exact toNat_add2 _ _ | exact toNat_emod _ _ | exact Int.toNat_natCast _ | rfl)) rfl ?_
        clear hl a; intro a hl
        refine d_take (i := 4) hl rfl (by kernel_rfl) (by kernel_rfl) (by kernel_rfl) (by kernel_rfl) (by kernel_rfl) rfl trivial (fun _ _ _ h => h) hM (fun w hC => r_loadCA hl rfl agg30 hC (by repeat (first | exact find_head | apply find_tail)) (by first | exact hq1 | exact hq2 | (simp only [List.getElem?_cons_zero, List.getElem?_cons_succ, Value.cells, List.take_zero, List.take_succ_cons, List.take_nil, List.drop_zero, List.drop_succ_cons, List.drop_nil, List.length_cons, List.length_nil, List.cons_append, List.nil_append, List.append_nil, Nat.zero_add, Nat.add_zero, Nat.reduceAdd, Nat.reduceBEq, Nat.reduceEqDiff, Nat.ble, BEq.rfl, Bool.and_true, Bool.and_self, cond_true, beq_self_eq_true]; rfl)) (by first | rfl | (simp; done))) rfl ?_
        clear hl a; intro a hl
        refine d_take (i := 5) hl rfl (by kernel_rfl) (by kernel_rfl) (by kernel_rfl) (by kernel_rfl) (by kernel_rfl) rfl trivial (fun _ _ _ h => h) hM (fun w hC => r_field hl rfl fld24_1) rfl ?_
        clear hl a; intro a hl
        refine d_take (i := 6) hl rfl (by kernel_rfl) (by kernel_rfl) (by kernel_rfl) (by kernel_rfl) (by kernel_rfl) rfl trivial (fun _ _ _ h => h) hM (fun w hC => r_loadC hl rfl one22 hC (by repeat (first | exact find_head | apply find_tail)) (by first | rfl)) rfl ?_
        clear hl a; intro a hl
        refine d_take (i := 7) hl rfl (by kernel_rfl) (by kernel_rfl) (by kernel_rfl) (by kernel_rfl) (by kernel_rfl) rfl trivial (fun _ _ _ h => h) hM (fun w hC => r_move hl rfl) rfl ?_
        clear hl a; intro a hl
        refine d_take (i := 8) hl rfl (by kernel_rfl) (by kernel_rfl) (by kernel_rfl) (by kernel_rfl) (by kernel_rfl) rfl trivial (fun _ _ _ h => h) hM (fun w hC => r_indexS hl rfl rfl slc22 (by omega) (by omega) (by first | (simp only [Int.reduceToNat]; rfl) | exact toNat_add1 _ | exact toNat_add2 _ _ | exact toNat_emod _ _ | exact Int.toNat_natCast _ | rfl)) rfl ?_
        clear hl a; intro a hl
        refine d_take (i := 9) hl rfl (by kernel_rfl) (by kernel_rfl) (by kernel_rfl) (by kernel_rfl) (by kernel_rfl) rfl trivial (fun _ _ _ h => h) hM (fun w hC => r_loadCA hl rfl agg30 hC (by repeat (first | exact find_head | apply find_tail)) (by first | exact hq1 | exact hq2 | (simp only [List.getElem?_cons_zero, List.getElem?_cons_succ, Value.cells, List.take_zero, List.take_succ_cons, List.take_nil, List.drop_zero, List.drop_succ_cons, List.drop_nil, List.length_cons, List.length_nil, List.cons_append, List.nil_append, List.append_nil, Nat.zero_add, Nat.add_zero, Nat.reduceAdd, Nat.reduceBEq, Nat.reduceEqDiff, Nat.ble, BEq.rfl, Bool.and_true, Bool.and_self, cond_true, beq_self_eq_true]; rfl)) (by first | rfl | (simp; done))) rfl ?_
        clear hl a; intro a hl
        refine d_one (i := 10) (by kernel_rfl) rfl ?_
        try clear hM
        refine id (w_call hl hh rfl trivial rfl cal20 rfl (cmpT v1 v2) (by repeat (first | exact keeps_nil | apply keeps_cons (by repeat (first | exact find_head | apply find_tail)) (by first  | rfl) | exact keeps_self | apply keeps_mv)) trivial ?_)
        clear hl hh a w; intro vc Fc a w hR hl hh
        obtain ⟨rfl, rfl⟩ := hR
        try simp only [List.cons_append, List.nil_append] at hh
        refine d_step (fun h => absurd h (by decide)) ?_
        refine d_takeL (i := 11) hl rfl (by kernel_rfl) (by kernel_rfl) (by kernel_rfl) (by kernel_rfl) (by kernel_rfl) rfl trivial (fun _ _ _ h => h) (fun w => r_assign hl rfl) rfl ?_
        clear hl a; intro a hl
        refine d_done (by kernel_rfl) ?_
        try clear hM
        have hl2 := hl.add (t := 2) (hl.add (t := 3) (hl.add (t := 8) (hl.add (t := 29) (hl.add (t := 30) (hl.nil) rfl) rfl) rfl) rfl) rfl; clear hl; have hl := hl2; clear hl2
        refine then_normal ?_
        refine c_seq ?_
        refine c_region ?_
        refine wl (wl_val hl rfl trivial (r_move hl rfl) ?_)
        clear hl a; intro a hl
        refine wl (wl_val hl rfl trivial (r_neq hl rfl rfl) ?_)
        clear hl a; intro a hl
        refine w_nil ?_
        have hl2 := hl.add (t := 2) (hl.add (t := 3) (hl.add (t := 8) (hl.add (t := 29) (hl.add (t := 30) (hl.add (t := 45) (hl.nil) rfl) rfl) rfl) rfl) rfl) rfl; clear hl; have hl := hl2; clear hl2
        refine then_normal ?_
        refine c_cond hl rfl ?_ ?_
        · intro hc3
          try simp only [decide_eq_true_eq, decide_eq_false_iff_not, Bool.not_eq_true', Bool.not_eq_false', Bool.not_eq_true, Bool.not_eq_false, Bool.and_eq_true, Bool.or_eq_true, Bool.and_eq_false_iff, Bool.or_eq_false_iff, Bool.not_not, ne_eq, Int.not_lt, Int.not_le, Decidable.not_not, beq_iff_eq, bne_iff_ne] at hc3
          refine c_seq ?_
          refine c_region ?_
          refine wl (wl_val hl rfl trivial (r_move hl rfl) ?_)
          clear hl a; intro a hl
          refine wl (wl_val hl rfl trivial (r_assign hl rfl) ?_)
          clear hl a; intro a hl
          refine w_nil ?_
          have hl2 := hl.add (t := 4) (hl.nil) rfl; clear hl; have hl := hl2; clear hl2
          refine then_normal ?_
          refine wp_ret ?_
          refine blk_ret ?_
          refine then_ret ?_
          refine then_ret ?_
          refine blk_ret ?_
          refine then_ret ?_
          refine f_ret1 (F' := []) hl hh rfl rfl (by repeat (first | exact keeps_nil | apply keeps_cons (by repeat (first | exact find_head | apply find_tail)) (by first  | rfl) | exact keeps_self | apply keeps_mv)) ?_
          exact ⟨congrArg (Value.int .i64) (by rcases (show i = 0 ∨ i = 1 by omega) with rfl | rfl; (simp at hv1 hv2; subst hv1; subst hv2; unfold cmp2; rw [if_neg (by assumption)]); (simp at hv1 hv2; subst hv1; subst hv2; unfold cmp2; rw [if_pos (hi1 (by omega))])), rfl⟩
        · intro hc3
          try simp only [decide_eq_true_eq, decide_eq_false_iff_not, Bool.not_eq_true', Bool.not_eq_false', Bool.not_eq_true, Bool.not_eq_false, Bool.and_eq_true, Bool.or_eq_true, Bool.and_eq_false_iff, Bool.or_eq_false_iff, Bool.not_not, ne_eq, Int.not_lt, Int.not_le, Decidable.not_not, beq_iff_eq, bne_iff_ne] at hc3
          refine wp_skip ?_
          refine blk_normal ?_
          refine then_normal ?_
          refine c_region ?_
          first | refine wl (wl_val hl rfl trivial (r_add hl rfl rfl (by simp only [Fits]; omega)) ?_) | refine wl (wl_val hl rfl trivial (r_addW hl rfl rfl) ?_)
          clear hl a; intro a hl
          refine wl (wl_val hl rfl trivial (r_move hl rfl) ?_)
          clear hl a; intro a hl
          refine w_nil ?_
          have hl2 := hl.add (t := 2) (hl.add (t := 3) (hl.add (t := 29) (hl.add (t := 30) (hl.nil) rfl) rfl) rfl) rfl; clear hl; have hl := hl2; clear hl2
          refine then_normal ?_
          refine ⟨i + 1, (by omega), (by refine ⟨by omega, fun _ => ?_, fun h2 => ?_⟩; (rcases (show i = 0 ∨ i = 1 by omega) with rfl | rfl; (simp at hv1 hv2; subst hv1; subst hv2; assumption); exact hi1 (by omega)); (obtain rfl : i = 1 := by omega); simp at hv1 hv2; subst hv1; subst hv2; assumption), hl.addE (t := 30) (hl.addE (t := 2) (hl.addE (t := 3) (hl.addE (t := 29) (hl.nil) rfl (by first | rfl | rfl)) rfl (by first | rfl | rfl)) rfl (by first | rfl | rfl)) rfl (by first | rfl | rfl), hh.keep (by repeat (first | exact keeps_nil | apply keeps_cons (by repeat (first | exact find_head | apply find_tail)) (by first  | rfl) | exact keeps_self | apply keeps_mv))⟩
      · intro hc2
        try simp only [decide_eq_true_eq, decide_eq_false_iff_not, Bool.not_eq_true', Bool.not_eq_false', Bool.not_eq_true, Bool.not_eq_false, Bool.and_eq_true, Bool.or_eq_true, Bool.and_eq_false_iff, Bool.or_eq_false_iff, Bool.not_not, ne_eq, Int.not_lt, Int.not_le, Decidable.not_not, beq_iff_eq, bne_iff_ne] at hc2
        refine wp_exit ?_
        refine then_exit ?_
        refine then_exit ?_
        refine blk_exit ?_
        refine then_normal ?_
        refine c_seq ?_
        refine c_region ?_
        refine wl (wl_val hl rfl trivial (r_assign hl rfl) ?_)
        clear hl a; intro a hl
        refine w_nil ?_
        have hl2 := hl.add (t := 4) (hl.nil) rfl; clear hl; have hl := hl2; clear hl2
        refine then_normal ?_
        refine wp_ret ?_
        refine f_ret1 (F' := []) hl hh rfl rfl (by repeat (first | exact keeps_nil | apply keeps_cons (by repeat (first | exact find_head | apply find_tail)) (by first  | rfl) | exact keeps_self | apply keeps_mv)) ?_
        exact ⟨congrArg (Value.int .i64) (by unfold cmp2; rw [if_pos (hi1 (by omega)), hi2 (by omega)]), rfl⟩

set_option maxHeartbeats 1000000 in
theorem cmpL (b1 b2 c1 c2 : Nat) (x1 y1 x2 y2 : Int) (j1 j2 : List Value) : SpK Try.prog 10 #[.agg ⟨[.int .u8 0, .int .u8 0, .string es, .slice (some ⟨b1, 0, none⟩) 2 c1]⟩, .agg ⟨[.int .u8 0, .int .u8 0, .string es, .slice (some ⟨b2, 0, none⟩) 2 c2]⟩] (fun w => w.heap[b1]? = some (C (fl tc [x1, y1] ++ j1) 30) ∧ w.heap[b2]? = some (C (fl tc [x2, y2] ++ j2) 30)) [] (fun v F' => v = .int .i64 (cmp2 x1 y1 x2 y2) ∧ F' = []) := by
  refine f_enter (args := [.agg ⟨[.int .u8 0, .int .u8 0, .string es, .slice (some ⟨b1, 0, none⟩) 2 c1]⟩, .agg ⟨[.int .u8 0, .int .u8 0, .string es, .slice (some ⟨b2, 0, none⟩) 2 c2]⟩]) Try.func10 rfl Try.ntmps10 rfl ?_
  intro w0 w a hpre hl hh
  simp only [slotsFrom, Nat.reduceAdd] at hl
  refine c_seq ?_
  refine c_region ?_
  refine wl (w_box hl hh rfl trivial rfl rfl ?_)
  clear hl hh a w; intro k2 a w hl hh
  refine wl (w_box hl hh rfl trivial rfl rfl ?_)
  clear hl hh a w; intro k3 a w hl hh
  refine wl (wl_val hl rfl trivial (r_assign hl rfl) ?_)
  clear hl a; intro a hl
  refine w_nil ?_
  have hl2 := hl.add (t := 2) (hl.add (t := 3) (hl.nil) rfl) rfl; clear hl; have hl := hl2; clear hl2
  refine then_normal ?_
  refine c_seq ?_
  refine c_seq ?_
  refine c_region ?_
  refine wl (wl_val hl rfl trivial (r_field hl rfl fld34_0) ?_)
  clear hl a; intro a hl
  refine wl (w_load hl hh rfl trivial one31 rfl (by repeat (first | exact find_head | apply find_tail)) (by first | rfl) ?_)
  clear hl a; intro a hl
  refine wl (wl_val hl rfl trivial (r_field hl rfl fld34_0) ?_)
  clear hl a; intro a hl
  refine wl (w_load hl hh rfl trivial one31 rfl (by repeat (first | exact find_head | apply find_tail)) (by first | rfl) ?_)
  clear hl a; intro a hl
  refine wl (w_call hl hh rfl trivial rfl cal12 rfl (cmp12 0 0) (by repeat (first | exact keeps_nil | apply keeps_cons (by repeat (first | exact find_head | apply find_tail)) (by first  | rfl) | exact keeps_self | apply keeps_mv)) trivial ?_)
  clear hl hh a w; intro vc Fc a w hR hl hh
  obtain ⟨rfl, rfl⟩ := hR
  try simp only [List.cons_append, List.nil_append] at hh
  rw [show cmpI 0 0 = 0 from rfl] at hl
  refine wl (wl_val hl rfl trivial (r_assign hl rfl) ?_)
  clear hl a; intro a hl
  refine w_nil ?_
  have hl2 := hl.add (t := 2) (hl.add (t := 3) (hl.add (t := 5) (hl.nil) rfl) rfl) rfl; clear hl; have hl := hl2; clear hl2
  refine then_normal ?_
  refine c_seq ?_
  refine c_region ?_
  refine wl (wl_val hl rfl trivial (r_move hl rfl) ?_)
  clear hl a; intro a hl
  refine wl (wl_val hl rfl trivial (r_neq hl rfl rfl) ?_)
  clear hl a; intro a hl
  refine w_nil ?_
  have hl2 := hl.add (t := 2) (hl.add (t := 3) (hl.add (t := 5) (hl.add (t := 13) (hl.nil) rfl) rfl) rfl) rfl; clear hl; have hl := hl2; clear hl2
  refine then_normal ?_
  refine c_cond hl rfl ?_ ?_
  · intro hc0
    try simp only [decide_eq_true_eq, decide_eq_false_iff_not, Bool.not_eq_true', Bool.not_eq_false', Bool.not_eq_true, Bool.not_eq_false, Bool.and_eq_true, Bool.or_eq_true, Bool.and_eq_false_iff, Bool.or_eq_false_iff, Bool.not_not, ne_eq, Int.not_lt, Int.not_le, Decidable.not_not, beq_iff_eq, bne_iff_ne] at hc0
    exfalso; first | contradiction | omega
  · intro hc0
    try simp only [decide_eq_true_eq, decide_eq_false_iff_not, Bool.not_eq_true', Bool.not_eq_false', Bool.not_eq_true, Bool.not_eq_false, Bool.and_eq_true, Bool.or_eq_true, Bool.and_eq_false_iff, Bool.or_eq_false_iff, Bool.not_not, ne_eq, Int.not_lt, Int.not_le, Decidable.not_not, beq_iff_eq, bne_iff_ne] at hc0
    refine wp_skip ?_
    refine then_normal ?_
    refine c_seq ?_
    refine c_seq ?_
    refine c_region ?_
    refine wl (wl_val hl rfl trivial (r_field hl rfl fld34_1) ?_)
    clear hl a; intro a hl
    refine wl (w_load hl hh rfl trivial one32 rfl (by repeat (first | exact find_head | apply find_tail)) (by first | rfl) ?_)
    clear hl a; intro a hl
    refine wl (wl_val hl rfl trivial (r_field hl rfl fld34_1) ?_)
    clear hl a; intro a hl
    refine wl (w_load hl hh rfl trivial one32 rfl (by repeat (first | exact find_head | apply find_tail)) (by first | rfl) ?_)
    clear hl a; intro a hl
    refine wl (w_call hl hh rfl trivial rfl cal13 rfl (cmp13 0 0) (by repeat (first | exact keeps_nil | apply keeps_cons (by repeat (first | exact find_head | apply find_tail)) (by first  | rfl) | exact keeps_self | apply keeps_mv)) trivial ?_)
    clear hl hh a w; intro vc Fc a w hR hl hh
    obtain ⟨rfl, rfl⟩ := hR
    try simp only [List.cons_append, List.nil_append] at hh
    rw [show cmpI 0 0 = 0 from rfl] at hl
    refine wl (wl_val hl rfl trivial (r_assign hl rfl) ?_)
    clear hl a; intro a hl
    refine w_nil ?_
    have hl2 := hl.add (t := 2) (hl.add (t := 3) (hl.add (t := 6) (hl.nil) rfl) rfl) rfl; clear hl; have hl := hl2; clear hl2
    refine then_normal ?_
    refine c_seq ?_
    refine c_region ?_
    refine wl (wl_val hl rfl trivial (r_move hl rfl) ?_)
    clear hl a; intro a hl
    refine wl (wl_val hl rfl trivial (r_neq hl rfl rfl) ?_)
    clear hl a; intro a hl
    refine w_nil ?_
    have hl2 := hl.add (t := 2) (hl.add (t := 3) (hl.add (t := 6) (hl.add (t := 21) (hl.nil) rfl) rfl) rfl) rfl; clear hl; have hl := hl2; clear hl2
    refine then_normal ?_
    refine c_cond hl rfl ?_ ?_
    · intro hc1
      try simp only [decide_eq_true_eq, decide_eq_false_iff_not, Bool.not_eq_true', Bool.not_eq_false', Bool.not_eq_true, Bool.not_eq_false, Bool.and_eq_true, Bool.or_eq_true, Bool.and_eq_false_iff, Bool.or_eq_false_iff, Bool.not_not, ne_eq, Int.not_lt, Int.not_le, Decidable.not_not, beq_iff_eq, bne_iff_ne] at hc1
      exfalso; first | contradiction | omega
    · intro hc1
      try simp only [decide_eq_true_eq, decide_eq_false_iff_not, Bool.not_eq_true', Bool.not_eq_false', Bool.not_eq_true, Bool.not_eq_false, Bool.and_eq_true, Bool.or_eq_true, Bool.and_eq_false_iff, Bool.or_eq_false_iff, Bool.not_not, ne_eq, Int.not_lt, Int.not_le, Decidable.not_not, beq_iff_eq, bne_iff_ne] at hc1
      refine wp_skip ?_
      refine then_normal ?_
      refine c_seq ?_
      refine c_region ?_
      refine wl (wl_val hl rfl trivial (r_field hl rfl fld34_2) ?_)
      clear hl a; intro a hl
      refine wl (w_loadA hl hh rfl trivial agg24 rfl (by repeat (first | exact find_head | apply find_tail)) (by first | (simp only [List.getElem?_cons_zero, List.getElem?_cons_succ, Value.cells, List.take_zero, List.take_succ_cons, List.take_nil, List.drop_zero, List.drop_succ_cons, List.drop_nil, List.length_cons, List.length_nil, List.cons_append, List.nil_append, List.append_nil, Nat.zero_add, Nat.add_zero, Nat.reduceAdd, Nat.reduceBEq, Nat.reduceEqDiff, Nat.ble, BEq.rfl, Bool.and_true, Bool.and_self, cond_true, beq_self_eq_true]; rfl)) (by first | rfl | (simp; done)) ?_)
      clear hl a; intro a hl
      refine wl (wl_val hl rfl trivial (r_field hl rfl fld34_2) ?_)
      clear hl a; intro a hl
      refine wl (w_loadA hl hh rfl trivial agg24 rfl (by repeat (first | exact find_head | apply find_tail)) (by first | (simp only [List.getElem?_cons_zero, List.getElem?_cons_succ, Value.cells, List.take_zero, List.take_succ_cons, List.take_nil, List.drop_zero, List.drop_succ_cons, List.drop_nil, List.length_cons, List.length_nil, List.cons_append, List.nil_append, List.append_nil, Nat.zero_add, Nat.add_zero, Nat.reduceAdd, Nat.reduceBEq, Nat.reduceEqDiff, Nat.ble, BEq.rfl, Bool.and_true, Bool.and_self, cond_true, beq_self_eq_true]; rfl)) (by first | rfl | (simp; done)) ?_)
      clear hl a; intro a hl
      refine wl (w_call hl hh rfl trivial rfl cal14 rfl (cmpA b1 b2 c1 c2 x1 y1 x2 y2 j1 j2) (by repeat (first | exact keeps_nil | apply keeps_cons (by repeat (first | exact find_head | apply find_tail)) (by first  | rfl) | exact keeps_self | apply keeps_mv)) ⟨heap_keep hh hpre.1, heap_keep hh hpre.2⟩ ?_)
      clear hl hh a w; intro vc Fc a w hR hl hh
      obtain ⟨rfl, rfl⟩ := hR
      try simp only [List.cons_append, List.nil_append] at hh
      refine wl (wl_val hl rfl trivial (r_assign hl rfl) ?_)
      clear hl a; intro a hl
      refine w_nil ?_
      have hl2 := hl.add (t := 4) (hl.nil) rfl; clear hl; have hl := hl2; clear hl2
      refine then_normal ?_
      refine wp_ret ?_
      refine f_ret1 (F' := []) hl hh rfl rfl (by repeat (first | exact keeps_nil | apply keeps_cons (by repeat (first | exact find_head | apply find_tail)) (by first  | rfl) | exact keeps_self | apply keeps_mv)) ?_
      exact ⟨rfl, rfl⟩
end Go.Proofs.Qxb6500915a

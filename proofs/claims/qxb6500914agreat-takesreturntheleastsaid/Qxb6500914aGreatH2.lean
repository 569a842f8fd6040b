import Derived.Test.Qxb6500914aGreatH1
namespace Go.Proofs.Qxb6500914aGreat
open Go.Eng
set_option linter.unusedVariables false
set_option linter.unusedSimpArgs false
theorem zero53 : zeroOk Tryz.prog 53 (.agg #[(.slice none 0 0), (.slice none 0 0), (.int .i64 0)]) := by unfold zeroOk; kernel_rfl
theorem fld53_0 : fieldOk Tryz.prog 53 0 0 = true := by kernel_rfl
theorem one50 : oneOk Tryz.prog 50 = true := by kernel_rfl
theorem slc50 : slcOk Tryz.prog 50 1 = true := by kernel_rfl
theorem agg53 : aggOk Tryz.prog 53 3 = true := by kernel_rfl
theorem app50 : appOk Tryz.prog 50 37 1 8 = true := by kernel_rfl
theorem zero37 : zeroOk Tryz.prog 37 (.int .u64 0) := by unfold zeroOk; kernel_rfl
/-! ## the model's steps -/
def rsV (r : Rs) : Value := .agg ⟨[.int .u8 r.a, .int .u64 r.v, .int .u64 r.p]⟩
def StepPost (k : Bool) (N : Nat) (A : List (Int × Int)) (ck cv cp : Int) (Z : List (Nat × Obj)) (u : Value) (F' : List (Nat × Obj)) : Prop := ∃ v', u = .tuple #[rsV (stA k A ck cv cp).2, v'] ∧ StR k (N + 1) (stA k A ck cv cp).1 v' (Z ++ F')
theorem stp {k : Bool} {N : Nat} {A B : List (Int × Int)} {ck cv cp : Int} {Z F' : List (Nat × Obj)} {v' : Value} {r : Rs} (h : stA k A ck cv cp = (B, r)) (hS : StR k (N + 1) B v' (Z ++ F')) : StepPost k N A ck cv cp Z (.tuple #[rsV r, v']) F' := by
  unfold StepPost; rw [h]; exact ⟨v', rfl, hS⟩
theorem st_pushF {A : List (Int × Int)} {ck cv cp : Int} (h : ck = 0 ∨ ck = 1) (h8 : A.length = 8) : stA false A ck cv cp = (A, ⟨3, 0, 0⟩) := by
  unfold stA; rw [if_pos rfl]; unfold apL; rw [if_pos (by omega), if_pos h8]
theorem st_push0 {A : List (Int × Int)} {cv cp : Int} (h8 : A.length ≠ 8) : stA false A 0 cv cp = ((cp, cv) :: A, ⟨0, 0, 0⟩) := by
  unfold stA; rw [if_pos rfl]; unfold apL; rw [if_pos (by omega), if_neg h8, if_neg (by omega), if_neg (by omega)]
theorem st_push1 {A : List (Int × Int)} {cv cp : Int} (h8 : A.length ≠ 8) : stA false A 1 cv cp = (A ++ [(cp, cv)], ⟨0, 0, 0⟩) := by
  unfold stA; rw [if_pos rfl]; unfold apL; rw [if_pos (by omega), if_neg h8, if_pos rfl]
theorem st_popE {ck cv cp : Int} (h : ck = 2 ∨ ck = 3) : stA false [] ck cv cp = ([], ⟨2, 0, 0⟩) := by
  unfold stA; rw [if_pos rfl]; unfold apL; rw [if_neg (by omega)]
  rw [show (if ck = 3 then ([] : List (Int × Int)).getLast? else ([] : List (Int × Int)).head?) = none by split <;> rfl]
theorem st_pop2 {x : Int × Int} {A : List (Int × Int)} {cv cp : Int} : stA false (x :: A) 2 cv cp = (A, ⟨1, x.2, x.1⟩) := by
  unfold stA; rw [if_pos rfl]; unfold apL; rw [if_neg (by omega), if_neg (by omega)]
  simp only [List.head?_cons, List.tail_cons]
  rw [if_neg (by omega), if_neg (by omega), if_neg (by omega)]
theorem st_pop3 {x : Int × Int} {A : List (Int × Int)} {cv cp : Int} : stA false (A ++ [x]) 3 cv cp = (A, ⟨1, x.2, x.1⟩) := by
  unfold stA; rw [if_pos rfl]; unfold apL; rw [if_neg (by omega), if_pos rfl]
  rw [show (A ++ [x]).getLast? = some x by simp]
  simp only
  rw [if_neg (by omega), if_neg (by omega)]
  simp
theorem st_bt {A : List (Int × Int)} {ck cv cp : Int} : stA true A ck cv cp = if ck = 4 then (if A.length = 8 then (A, ⟨3, 0, 0⟩) else (A ++ [(cp, cv)], ⟨0, 0, 0⟩)) else if A = [] then (A, ⟨2, 0, 0⟩) else if ck = 7 ∧ cp < (A.getD (lsN A) (0, 0)).1 then (A, ⟨4, 0, (A.getD (lsN A) (0, 0)).1⟩) else if ck = 6 then (A, ⟨1, (A.getD (lsN A) (0, 0)).2, (A.getD (lsN A) (0, 0)).1⟩) else (A.eraseIdx (lsN A), ⟨1, (A.getD (lsN A) (0, 0)).2, (A.getD (lsN A) (0, 0)).1⟩) := by
  unfold stA; rw [if_neg (by decide)]
theorem AOk.cons {A : List (Int × Int)} (h : AOk A) (h8 : A.length ≠ 8) {x : Int × Int} (hx : InR x.1 ∧ InR x.2) : AOk (x :: A) := ⟨by have := h.len; rw [List.length_cons]; omega, fun y hy => by rcases List.mem_cons.1 hy with q | q; rw [q]; exact hx; exact h.rng y q⟩
theorem AOk.snoc {A : List (Int × Int)} (h : AOk A) (h8 : A.length ≠ 8) {x : Int × Int} (hx : InR x.1 ∧ InR x.2) : AOk (A ++ [x]) := ⟨by have := h.len; rw [List.length_append, List.length_singleton]; omega, fun y hy => by rcases List.mem_append.1 hy with q | q; exact h.rng y q; rw [List.mem_singleton] at q; rw [q]; exact hx⟩
theorem AOk.sub {A B : List (Int × Int)} (h : AOk A) (hs : B.Sublist A) : AOk B := ⟨Nat.le_trans hs.length_le h.len, fun x hx => h.rng x (hs.subset hx)⟩
theorem StR.push0 {N : Nat} {A : List (Int × Int)} {cv : Int} {Z E : List (Nat × Obj)} {v : Value} (hz : ∀ x ∈ A, x.1 = 0) (ho : AOk A) (h8 : A.length ≠ 8) (hcv : InR cv) (hR : Row v (1 + A.length) ([Value.int .u64 cv] ++ fl u64c A) 1 37 E) : StR false (N + 1) ((0, cv) :: A) (.agg ⟨[v, .slice none 0 0, .int .i64 0]⟩) (Z ++ E) := by
  refine .dq _ _ _ _ (fun x hx => ?_) (ho.cons h8 ⟨inR0, hcv⟩) ?_
  · rcases List.mem_cons.1 hx with q | q
    · rw [q]
    · exact hz x q
  · rw [List.length_cons, Nat.add_comm, fl_cons]
    exact (VwZ.of hR).mono fun x hx => List.mem_append_right _ hx
theorem StR.push1 {N : Nat} {A : List (Int × Int)} {cv : Int} {Z E : List (Nat × Obj)} {v : Value} (hz : ∀ x ∈ A, x.1 = 0) (ho : AOk A) (h8 : A.length ≠ 8) (hcv : InR cv) (hR : Row v (0 + A.length + 1) (([] ++ fl u64c A) ++ [Value.int .u64 cv]) 1 37 E) : StR false (N + 1) (A ++ [(0, cv)]) (.agg ⟨[v, .slice none 0 0, .int .i64 0]⟩) (Z ++ E) := by
  refine .dq _ _ _ _ (fun x hx => ?_) (ho.snoc h8 ⟨inR0, hcv⟩) ?_
  · rcases List.mem_append.1 hx with q | q
    · exact hz x q
    · rw [List.mem_singleton] at q; rw [q]
  · rw [List.length_append, List.length_singleton, fl_append]
    rw [Nat.zero_add, List.nil_append] at hR
    exact (VwZ.of hR).mono fun x hx => List.mem_append_right _ hx
theorem StR.same {k : Bool} {N : Nat} {A : List (Int × Int)} {v : Value} {Z F' : List (Nat × Obj)} (h : StR k N A v Z) : StR k (N + 1) A v (Z ++ F') := h.mono (by omega) fun x hx => List.mem_append_left _ hx
theorem u64_at {A : List (Int × Int)} {l : List Value} {o i : Nat} {x : Int × Int} (h5 : (l.drop o).take (fl u64c A).length = fl u64c A) (he : A[i]? = some x) : l[o + i * 1]? = some (.int .u64 x.2) := by
  refine vw_cell h5 ?_
  have := fl_cell (f := u64c) (s := 1) u64c_len (j := 0) he rfl []
  rw [List.append_nil, Nat.zero_add, Nat.add_zero] at this
  exact this
theorem one_dq {v : Value} {x : Int} (h : v.oneCell' = true) : ([v, .slice none 0 0, .int .i64 x] : List Value).all (·.oneCell') = true := by rw [List.all_cons, h]; rfl
theorem one_bf {v : Value} {x : Int} (h : v.oneCell' = true) : ([.slice none 0 0, v, .int .i64 x] : List Value).all (·.oneCell') = true := by rw [List.all_cons, List.all_cons, h]; rfl
theorem StR.tail {N : Nat} {A : List (Int × Int)} {x : Int × Int} {Z F' : List (Nat × Obj)} {b o c : Nat} {l : List Value} {T : TypeId} (hz : ∀ y ∈ x :: A, y.1 = 0) (ho : AOk (x :: A)) (hZ : (b, C l T) ∈ Z) (h5 : (l.drop o).take (fl u64c (x :: A)).length = fl u64c (x :: A)) (hc : A.length + 1 ≤ c) :
    StR false (N + 1) A (.agg ⟨[.slice (if c = 1 then some ⟨b, o, none⟩ else some ⟨b, o + 1 * 1, none⟩) (A.length + 1 - 1) (c - 1), .slice none 0 0, .int .i64 0]⟩) (Z ++ F') := by
  have hv := vw_drop (size := 1) (m := A.length + 1) (c := c) (i := 1) hZ h5 (by rw [fl_len u64c_len]; rfl) (by omega) hc
  rw [Nat.mul_one, fl_cons] at hv
  refine .dq _ _ _ _ (fun y hy => hz y (List.mem_cons_of_mem _ hy)) (ho.sub (List.sublist_cons_self _ _)) ?_
  exact VwZ.mono hv fun y hy => List.mem_append_left _ hy
theorem StR.front {N : Nat} {A : List (Int × Int)} {x : Int × Int} {Z F' : List (Nat × Obj)} {b o c : Nat} {l : List Value} {T : TypeId} (hz : ∀ y ∈ A ++ [x], y.1 = 0) (ho : AOk (A ++ [x])) (hZ : (b, C l T) ∈ Z) (h5 : (l.drop o).take (fl u64c (A ++ [x])).length = fl u64c (A ++ [x])) (hc : A.length + 1 ≤ c) :
    StR false (N + 1) A (.agg ⟨[.slice (some ⟨b, o, none⟩) A.length c, .slice none 0 0, .int .i64 0]⟩) (Z ++ F') := by
  have hv := vw_take (size := 1) (m := A.length + 1) (c := c) (i := A.length) hZ h5 (by rw [fl_len u64c_len]; simp) (by omega) hc
  rw [fl_takeS u64c_len _ _ (by simp), List.take_left] at hv
  refine .dq _ _ _ _ (fun y hy => hz y (List.mem_append_left _ hy)) (ho.sub (List.sublist_append_left _ _)) ?_
  exact VwZ.mono hv fun y hy => List.mem_append_left _ hy
theorem StR.put {N : Nat} {A : List (Int × Int)} {es : List En} {ar : Nat} {cv cp : Int} {Z E : List (Nat × Obj)} {v : Value} (hb : BfR N A es ar) (ho : AOk A) (h8 : A.length ≠ 8) (hcv : InR cv) (hcp : InR cp) (hR : Row v (0 + es.length + 1) (([] ++ fl entL es) ++ [Value.int .u64 cp, .int .i64 (ar : Int), .int .u64 cv]) 3 127 E) : StR true (N + 1) (A ++ [(cp, cv)]) (.agg ⟨[.slice none 0 0, v, .int .i64 ((ar : Int) + 1)]⟩) (Z ++ E) := by
  refine .bf _ _ _ _ (es ++ [⟨cp, ar, cv⟩]) (ar + 1) ⟨by rw [hb.A]; simp [enA], ?_, fun e he => ?_, by have := hb.le; omega⟩ (ho.snoc h8 ⟨hcp, hcv⟩) ?_
  · rw [List.pairwise_append]
    refine ⟨hb.srt, List.pairwise_singleton _ _, fun a ha b hb2 => ?_⟩
    rw [List.mem_singleton] at hb2; subst hb2
    exact hb.lt a ha
  · rcases List.mem_append.1 he with q | q
    · have := hb.lt e q; omega
    · rw [List.mem_singleton] at q; subst q; show ar < ar + 1; omega
  · rw [List.length_append, List.length_singleton, fl_append]
    rw [Nat.zero_add, List.nil_append] at hR
    exact (VwZ.of hR).mono fun x hx => List.mem_append_right _ hx
theorem enA_erase : ∀ (es : List En) (i : Nat), (enA es).eraseIdx i = enA (es.eraseIdx i)
  | [], i => rfl
  | e :: es, 0 => rfl
  | e :: es, i + 1 => congrArg ((e.pr, e.v) :: ·) (enA_erase es i)
theorem flU0 : fl u64c [] = [] := rfl
theorem flE0 : fl entL [] = [] := rfl
theorem StR.erase {N : Nat} {A : List (Int × Int)} {es : List En} {ar i : Nat} {Z E : List (Nat × Obj)} {v : Value} (hb : BfR N A es ar) (ho : AOk A) (hR : Row v (es.eraseIdx i).length (fl entL (es.eraseIdx i)) 3 127 E) : StR true (N + 1) (A.eraseIdx i) (.agg ⟨[.slice none 0 0, v, .int .i64 (ar : Int)]⟩) (Z ++ E) := by
  refine .bf _ _ _ _ (es.eraseIdx i) ar ⟨by rw [hb.A]; exact enA_erase es i, hb.srt.sublist (List.eraseIdx_sublist _ _), fun e he => hb.lt e ((List.eraseIdx_sublist _ _).subset he), by have := hb.le; omega⟩ (ho.sub (List.eraseIdx_sublist _ _)) ?_
  exact (VwZ.of hR).mono fun x hx => List.mem_append_right _ hx
theorem one_ite {c : Prop} [Decidable c] {x y : Option Addr} (m k : Nat) : (Value.slice (if c then x else y) m k).oneCell' = true := rfl
theorem st_put {A : List (Int × Int)} {cv cp : Int} (h8 : A.length ≠ 8) : stA true A 4 cv cp = (A ++ [(cp, cv)], ⟨0, 0, 0⟩) := by rw [st_bt, if_pos rfl, if_neg h8]
theorem st_putF {A : List (Int × Int)} {cv cp : Int} (h8 : A.length = 8) : stA true A 4 cv cp = (A, ⟨3, 0, 0⟩) := by rw [st_bt, if_pos rfl, if_pos h8]
theorem st_bE {ck cv cp : Int} (h : ck ≠ 4) : stA true [] ck cv cp = ([], ⟨2, 0, 0⟩) := by rw [st_bt, if_neg h, if_pos rfl]
section taken
variable {es : List En} {pr ev : Int} {ea : Nat} {ck cv cp : Int}
theorem en_ne {i : Nat} {e : En} (he : es[i]? = some e) : enA es ≠ [] := by
  intro q
  have h1 := (List.getElem?_eq_some_iff.1 he).1
  have h2 := congrArg List.length q
  rw [enA_len, List.length_nil] at h2
  omega
theorem st_take (he : es[lsN (enA es)]? = some ⟨pr, ea, ev⟩) (h4 : ck ≠ 4) (h6 : ck ≠ 6) (h7 : ¬ (ck = 7 ∧ cp < pr)) : stA true (enA es) ck cv cp = ((enA es).eraseIdx (lsN (enA es)), ⟨1, ev, pr⟩) := by
  rw [st_bt, if_neg h4, if_neg (en_ne he), enA_get he, if_neg h7, if_neg h6]
theorem st_peek (he : es[lsN (enA es)]? = some ⟨pr, ea, ev⟩) : stA true (enA es) 6 cv cp = (enA es, ⟨1, ev, pr⟩) := by
  rw [st_bt, if_neg (by omega), if_neg (en_ne he), enA_get he, if_neg (by omega), if_pos rfl]
theorem st_notdue (he : es[lsN (enA es)]? = some ⟨pr, ea, ev⟩) (h7 : cp < pr) : stA true (enA es) 7 cv cp = (enA es, ⟨4, 0, pr⟩) := by
  rw [st_bt, if_neg (by omega), if_neg (en_ne he), enA_get he, if_pos ⟨rfl, h7⟩]
end taken


attribute [local irreducible] fl stA

set_option maxHeartbeats 2000000 in
theorem stepD0 (N : Nat) (A : List (Int × Int)) (Z : List (Nat × Obj)) (cv : Int) (hcv : InR cv) (hz : ∀ x ∈ A, x.1 = 0) (ho : AOk A) (p : Option Addr) (c : Nat) (hv : VwZ 1 (.slice p A.length c) A.length (fl u64c A) Z) : SpK Tryz.prog 31 #[.agg ⟨[.slice p A.length c, .slice none 0 0, .int .i64 0]⟩, .agg ⟨[.int .u8 0, .int .u64 cv, .int .u64 0]⟩] (Mem Z) [] (StepPost false N A 0 cv 0 Z) := by
  refine f_enter (args := [.agg ⟨[.slice p A.length c, .slice none 0 0, .int .i64 0]⟩, .agg ⟨[.int .u8 0, .int .u64 cv, .int .u64 0]⟩]) Tryz.func31 rfl Tryz.ntmps31 rfl ?_
  intro w0 w a hpre hl hh
  have hlen := ho.len
  simp only [slotsFrom, Nat.reduceAdd] at hl
  refine c_seq ?_
  refine c_region ?_
  refine wl (w_box hl hh rfl trivial rfl rfl ?_)
  clear hl hh a w; intro k2 a w hl hh
  refine wl (w_box hl hh rfl trivial rfl rfl ?_)
  clear hl hh a w; intro k3 a w hl hh
  refine wl (w_alloc hl hh rfl trivial zero39 rfl ?_)
  clear hl hh a w; intro k4 a w hl hh
  refine wl (w_alloc hl hh rfl trivial zero53 rfl ?_)
  clear hl hh a w; intro k5 a w hl hh
  refine w_nil ?_
  have hl2 := hl.add (t := 2) (hl.add (t := 3) (hl.add (t := 4) (hl.add (t := 5) (hl.nil) rfl) rfl) rfl) rfl; clear hl; have hl := hl2; clear hl2
  refine then_normal ?_
  refine c_seq ?_
  refine c_region ?_
  refine wl (wl_val hl rfl trivial (r_field hl rfl fld53_0) ?_)
  clear hl a; intro a hl
  refine wl (w_load hl hh rfl trivial one50 rfl (by repeat (first | exact find_head | apply find_tail)) (by first | rfl) ?_)
  clear hl a; intro a hl
  refine wl (wl_val hl rfl trivial (r_lenS hl rfl slc50) ?_)
  clear hl a; intro a hl
  refine wl (wl_val hl rfl trivial (r_assign hl rfl) ?_)
  clear hl a; intro a hl
  refine w_nil ?_
  have hl2 := hl.add (t := 2) (hl.add (t := 3) (hl.add (t := 4) (hl.add (t := 5) (hl.add (t := 6) (hl.nil) rfl) rfl) rfl) rfl) rfl; clear hl; have hl := hl2; clear hl2
  refine then_normal ?_
  refine c_seq ?_
  refine c_seq ?_
  refine c_region ?_
  refine wl (wl_val hl rfl trivial (r_field hl rfl fld60_0) ?_)
  clear hl a; intro a hl
  refine wl (w_load hl hh rfl trivial one35 rfl (by repeat (first | exact find_head | apply find_tail)) (by first | rfl) ?_)
  clear hl a; intro a hl
  refine w_nil ?_
  have hl2 := hl.add (t := 2) (hl.add (t := 3) (hl.add (t := 4) (hl.add (t := 5) (hl.add (t := 6) (hl.add (t := 15) (hl.nil) rfl) rfl) rfl) rfl) rfl) rfl; clear hl; have hl := hl2; clear hl2
  refine then_normal ?_
  refine wp_block ?_
  refine c_seq ?_
  refine c_region ?_
  refine wl (wl_val hl rfl trivial (r_eql hl rfl rfl) ?_)
  clear hl a; intro a hl
  refine wl (wl_val hl rfl trivial (r_assign hl rfl) ?_)
  clear hl a; intro a hl
  refine w_nil ?_
  have hl2 := hl.add (t := 2) (hl.add (t := 3) (hl.add (t := 4) (hl.add (t := 5) (hl.add (t := 6) (hl.add (t := 15) (hl.add (t := 16) (hl.nil) rfl) rfl) rfl) rfl) rfl) rfl) rfl; clear hl; have hl := hl2; clear hl2
  refine then_normal ?_
  refine c_cond hl rfl ?_ ?_
  · intro hc0
    try simp only [decide_eq_true_eq, decide_eq_false_iff_not, Bool.not_eq_true', Bool.not_eq_false', Bool.not_eq_true, Bool.not_eq_false, Bool.and_eq_true, Bool.or_eq_true, Bool.and_eq_false_iff, Bool.or_eq_false_iff, Bool.not_not, ne_eq, Int.not_lt, Int.not_le, Decidable.not_not, beq_iff_eq, bne_iff_ne] at hc0
    refine c_seq ?_
    refine c_seq ?_
    refine c_region ?_
    refine wl (wl_val hl rfl trivial (r_move hl rfl) ?_)
    clear hl a; intro a hl
    refine wl (wl_val hl rfl trivial (r_eql hl rfl rfl) ?_)
    clear hl a; intro a hl
    refine w_nil ?_
    have hl2 := hl.add (t := 2) (hl.add (t := 3) (hl.add (t := 4) (hl.add (t := 5) (hl.add (t := 19) (hl.nil) rfl) rfl) rfl) rfl) rfl; clear hl; have hl := hl2; clear hl2
    refine then_normal ?_
    refine c_cond hl rfl ?_ ?_
    · intro hc1
      try simp only [decide_eq_true_eq, decide_eq_false_iff_not, Bool.not_eq_true', Bool.not_eq_false', Bool.not_eq_true, Bool.not_eq_false, Bool.and_eq_true, Bool.or_eq_true, Bool.and_eq_false_iff, Bool.or_eq_false_iff, Bool.not_not, ne_eq, Int.not_lt, Int.not_le, Decidable.not_not, beq_iff_eq, bne_iff_ne] at hc1
      refine c_seq ?_
      refine c_draw [(k2, C [.slice p A.length c, .slice none 0 0, .int .i64 0] 53)] [3] mixed hh ?_
      clear hh w; intro w hh
      have hM : Mem [(k2, C [.slice p A.length c, .slice none 0 0, .int .i64 0] 53)] w := (by (repeat (first | exact Mem.nil | refine Mem.cons hh.mem (by (repeat (first | exact find_head | apply find_tail)); done) ?_ | refine Mem.consR hh (by assumption) (by simp) ?_ | fail)); done)
      refine d_take (i := 0) hl rfl (by kernel_rfl) (by kernel_rfl) (by kernel_rfl) (by kernel_rfl) (by kernel_rfl) rfl trivial (fun _ _ _ h => h) hM (fun w hC => r_build hl rfl zero39 bld39 (by simp only [fillL, setL, List.getElem?_cons_zero, List.getElem?_cons_succ, Value.cells, List.take_zero, List.take_succ_cons, List.take_nil, List.drop_zero, List.drop_succ_cons, List.drop_nil, List.length_cons, List.length_nil, List.cons_append, List.nil_append, List.append_nil, Nat.zero_add, Nat.add_zero, Nat.reduceAdd, Nat.reduceBEq, Nat.reduceEqDiff, Nat.ble, BEq.rfl, Bool.and_true, Bool.and_self, cond_true, beq_self_eq_true]; rfl)) rfl ?_
      clear hl a; intro a hl
      refine d_take (i := 1) hl rfl (by kernel_rfl) (by kernel_rfl) (by kernel_rfl) (by kernel_rfl) (by kernel_rfl) rfl trivial (fun _ _ _ h => h) hM (fun w hC => r_loadCA hl rfl agg53 hC (by repeat (first | exact find_head | apply find_tail)) (by first | (simp only [List.getElem?_cons_zero, List.getElem?_cons_succ, Value.cells, List.take_zero, List.take_succ_cons, List.take_nil, List.drop_zero, List.drop_succ_cons, List.drop_nil, List.length_cons, List.length_nil, List.cons_append, List.nil_append, List.append_nil, Nat.zero_add, Nat.add_zero, Nat.reduceAdd, Nat.reduceBEq, Nat.reduceEqDiff, Nat.ble, BEq.rfl, Bool.and_true, Bool.and_self, cond_true, beq_self_eq_true]; rfl)) (by first | rfl | (simp; done))) rfl ?_
      clear hl a; intro a hl
      refine d_one (i := 2) (by kernel_rfl) rfl ?_
      try clear hM
      refine id (w_storeA hl hh trivial agg39 rfl rfl (by repeat (first | exact find_head | apply find_tail)) (by first | rfl | (simp; done)) (by first | (simp; done) | (simp; omega)) (by first | rfl | (simp; done) | exact one_dq hR3.one | exact one_dq hR2.one | exact one_bf hR3.one | exact one_bf hR2.one) (by first | (simp only [setL, List.getElem?_cons_zero, List.getElem?_cons_succ, Value.cells, List.take_zero, List.take_succ_cons, List.take_nil, List.drop_zero, List.drop_succ_cons, List.drop_nil, List.length_cons, List.length_nil, List.cons_append, List.nil_append, List.append_nil, Nat.zero_add, Nat.add_zero, Nat.reduceAdd, Nat.reduceBEq, Nat.reduceEqDiff, Nat.ble, BEq.rfl, Bool.and_true, Bool.and_self, cond_true, beq_self_eq_true]; rfl)) ?_)
      clear hh w; intro w hh
      have hM : Mem [(k2, C [.slice p A.length c, .slice none 0 0, .int .i64 0] 53)] w := (by (repeat (first | exact Mem.nil | refine Mem.cons hh.mem (by (repeat (first | exact find_head | apply find_tail)); done) ?_ | refine Mem.consR hh (by assumption) (by simp) ?_ | fail)); done)
      refine d_step (fun _ => hM) ?_
      refine d_one (i := 3) (by kernel_rfl) rfl ?_
      try clear hM
      refine id (w_storeA hl hh trivial agg53 rfl rfl (by repeat (first | exact find_head | apply find_tail)) (by first | rfl | (simp; done)) (by first | (simp; done) | (simp; omega)) (by first | rfl | (simp; done) | exact one_dq hR3.one | exact one_dq hR2.one | exact one_bf hR3.one | exact one_bf hR2.one) (by first | (simp only [setL, List.getElem?_cons_zero, List.getElem?_cons_succ, Value.cells, List.take_zero, List.take_succ_cons, List.take_nil, List.drop_zero, List.drop_succ_cons, List.drop_nil, List.length_cons, List.length_nil, List.cons_append, List.nil_append, List.append_nil, Nat.zero_add, Nat.add_zero, Nat.reduceAdd, Nat.reduceBEq, Nat.reduceEqDiff, Nat.ble, BEq.rfl, Bool.and_true, Bool.and_self, cond_true, beq_self_eq_true]; rfl)) ?_)
      clear hh w; intro w hh
      refine d_step (fun h => absurd h (by decide)) ?_
      refine d_done (by kernel_rfl) ?_
      try clear hM
      have hl2 := hl.add (t := 4) (hl.add (t := 5) (hl.nil) rfl) rfl; clear hl; have hl := hl2; clear hl2
      refine then_normal ?_
      refine wp_ret ?_
      refine then_ret ?_
      refine blk_ret ?_
      refine then_ret ?_
      refine f_retCC (F' := []) hl hh rfl rfl rfl agg39 agg53 (by repeat (first | exact find_head | apply find_tail)) (by repeat (first | exact find_head | apply find_tail)) (by first | rfl | (simp; done)) (by first | rfl | (simp; done)) (by repeat (first | exact keeps_nil | apply keeps_cons (by repeat (first | exact find_head | apply find_tail)) (by first  | rfl) | exact keeps_self | exact keeps_left | exact keeps_right | exact keeps_swap | apply keeps_mv)) ?_
      exact stp (st_pushF (.inl rfl) (by omega)) (StR.same (.dq N A Z _ hz ho hv))
    · intro hc1
      try simp only [decide_eq_true_eq, decide_eq_false_iff_not, Bool.not_eq_true', Bool.not_eq_false', Bool.not_eq_true, Bool.not_eq_false, Bool.and_eq_true, Bool.or_eq_true, Bool.and_eq_false_iff, Bool.or_eq_false_iff, Bool.not_not, ne_eq, Int.not_lt, Int.not_le, Decidable.not_not, beq_iff_eq, bne_iff_ne] at hc1
      refine wp_skip ?_
      refine then_normal ?_
      refine c_seq ?_
      refine c_region ?_
      refine wl (wl_val hl rfl trivial (r_field hl rfl fld60_1) ?_)
      clear hl a; intro a hl
      refine wl (w_load hl hh rfl trivial one37 rfl (by repeat (first | exact find_head | apply find_tail)) (by first | rfl) ?_)
      clear hl a; intro a hl
      refine wl (w_buildSlice hl hh rfl trivial app50 zero37 rfl rfl rfl rfl rfl (by simp only [fillL, arrPl, List.range_succ, List.range_zero, List.map_cons, List.map_nil, List.map_append, List.nil_append, List.replicate_succ, List.replicate_zero, List.flatten_cons, List.flatten_nil, Nat.zero_mul, Nat.mul_one, Nat.one_mul, Nat.reduceMul, setL, List.getElem?_cons_zero, List.getElem?_cons_succ, Value.cells, List.take_zero, List.take_succ_cons, List.take_nil, List.drop_zero, List.drop_succ_cons, List.drop_nil, List.length_cons, List.length_nil, List.cons_append, List.nil_append, List.append_nil, Nat.zero_add, Nat.add_zero, Nat.reduceAdd, Nat.reduceBEq, Nat.reduceEqDiff, Nat.ble, BEq.rfl, Bool.and_true, Bool.and_self, cond_true, beq_self_eq_true]; rfl) ?_)
      clear hl hh a w; intro k24 a w hl hh
      refine wl (wl_val hl rfl trivial (r_field hl rfl fld53_0) ?_)
      clear hl a; intro a hl
      refine wl (w_load hl hh rfl trivial one50 rfl (by repeat (first | exact find_head | apply find_tail)) (by first | rfl) ?_)
      clear hl a; intro a hl
      refine wl (w_appendV hl hh rfl trivial app50 rfl rfl rfl (row1 k24 1 [.int .u64 cv] 37 rfl) (by repeat (first | exact keeps_nil | apply keeps_cons (by repeat (first | exact find_head | apply find_tail)) (by first  | rfl) | exact keeps_self | exact keeps_left | exact keeps_right | exact keeps_swap | apply keeps_mv)) hv (mem_keep hh hpre) (fl_all u64c_one _) (by omega) (by omega) (by decide) ?_)
      clear hl hh a w; intro rv2 E2 a w hR2 hl hh
      have hh3 := hh.comm; clear hh; have hh := hh3; clear hh3
      simp only [List.cons_append, List.nil_append] at hh
      refine wl (wl_val hl rfl trivial (r_field hl rfl fld53_0) ?_)
      clear hl a; intro a hl
      refine wl (w_store hl hh trivial one50 rfl rfl (by repeat (first | exact find_head | apply find_tail)) (by first | (simp; done) | (simp; omega)) (by first | rfl | assumption | (apply Row.one; assumption)) (by first | (simp only [setL, List.getElem?_cons_zero, List.getElem?_cons_succ, Value.cells, List.take_zero, List.take_succ_cons, List.take_nil, List.drop_zero, List.drop_succ_cons, List.drop_nil, List.length_cons, List.length_nil, List.cons_append, List.nil_append, List.append_nil, Nat.zero_add, Nat.add_zero, Nat.reduceAdd, Nat.reduceBEq, Nat.reduceEqDiff, Nat.ble, BEq.rfl, Bool.and_true, Bool.and_self, cond_true, beq_self_eq_true]; rfl)) ?_)
      clear hh w; intro w hh
      refine w_nil ?_
      have hl2 := hl.add (t := 2) (hl.add (t := 4) (hl.add (t := 5) (hl.nil) rfl) rfl) rfl; clear hl; have hl := hl2; clear hl2
      refine then_normal ?_
      refine c_seq ?_
      refine c_draw [(k2, C [rv2, .slice none 0 0, .int .i64 0] 53)] [3] mixed hh ?_
      clear hh w; intro w hh
      have hM : Mem [(k2, C [rv2, .slice none 0 0, .int .i64 0] 53)] w := (by (repeat (first | exact Mem.nil | refine Mem.cons hh.mem (by (repeat (first | exact find_head | apply find_tail)); done) ?_ | refine Mem.consR hh (by assumption) (by simp) ?_ | fail)); done)
      refine d_take (i := 0) hl rfl (by kernel_rfl) (by kernel_rfl) (by kernel_rfl) (by kernel_rfl) (by kernel_rfl) rfl trivial (fun _ _ _ h => h) hM (fun w hC => r_build hl rfl zero39 bld39 (by simp only [fillL, setL, List.getElem?_cons_zero, List.getElem?_cons_succ, Value.cells, List.take_zero, List.take_succ_cons, List.take_nil, List.drop_zero, List.drop_succ_cons, List.drop_nil, List.length_cons, List.length_nil, List.cons_append, List.nil_append, List.append_nil, Nat.zero_add, Nat.add_zero, Nat.reduceAdd, Nat.reduceBEq, Nat.reduceEqDiff, Nat.ble, BEq.rfl, Bool.and_true, Bool.and_self, cond_true, beq_self_eq_true]; rfl)) rfl ?_
      clear hl a; intro a hl
      refine d_take (i := 1) hl rfl (by kernel_rfl) (by kernel_rfl) (by kernel_rfl) (by kernel_rfl) (by kernel_rfl) rfl trivial (fun _ _ _ h => h) hM (fun w hC => r_loadCA hl rfl agg53 hC (by repeat (first | exact find_head | apply find_tail)) (by first | (simp only [List.getElem?_cons_zero, List.getElem?_cons_succ, Value.cells, List.take_zero, List.take_succ_cons, List.take_nil, List.drop_zero, List.drop_succ_cons, List.drop_nil, List.length_cons, List.length_nil, List.cons_append, List.nil_append, List.append_nil, Nat.zero_add, Nat.add_zero, Nat.reduceAdd, Nat.reduceBEq, Nat.reduceEqDiff, Nat.ble, BEq.rfl, Bool.and_true, Bool.and_self, cond_true, beq_self_eq_true]; rfl)) (by first | rfl | (simp; done))) rfl ?_
      clear hl a; intro a hl
      refine d_one (i := 2) (by kernel_rfl) rfl ?_
      try clear hM
      refine id (w_storeA hl hh trivial agg39 rfl rfl (by repeat (first | exact find_head | apply find_tail)) (by first | rfl | (simp; done)) (by first | (simp; done) | (simp; omega)) (by first | rfl | (simp; done) | exact one_dq hR3.one | exact one_dq hR2.one | exact one_bf hR3.one | exact one_bf hR2.one) (by first | (simp only [setL, List.getElem?_cons_zero, List.getElem?_cons_succ, Value.cells, List.take_zero, List.take_succ_cons, List.take_nil, List.drop_zero, List.drop_succ_cons, List.drop_nil, List.length_cons, List.length_nil, List.cons_append, List.nil_append, List.append_nil, Nat.zero_add, Nat.add_zero, Nat.reduceAdd, Nat.reduceBEq, Nat.reduceEqDiff, Nat.ble, BEq.rfl, Bool.and_true, Bool.and_self, cond_true, beq_self_eq_true]; rfl)) ?_)
      clear hh w; intro w hh
      have hM : Mem [(k2, C [rv2, .slice none 0 0, .int .i64 0] 53)] w := (by (repeat (first | exact Mem.nil | refine Mem.cons hh.mem (by (repeat (first | exact find_head | apply find_tail)); done) ?_ | refine Mem.consR hh (by assumption) (by simp) ?_ | fail)); done)
      refine d_step (fun _ => hM) ?_
      refine d_one (i := 3) (by kernel_rfl) rfl ?_
      try clear hM
      refine id (w_storeA hl hh trivial agg53 rfl rfl (by repeat (first | exact find_head | apply find_tail)) (by first | rfl | (simp; done)) (by first | (simp; done) | (simp; omega)) (by first | rfl | (simp; done) | exact one_dq hR3.one | exact one_dq hR2.one | exact one_bf hR3.one | exact one_bf hR2.one) (by first | (simp only [setL, List.getElem?_cons_zero, List.getElem?_cons_succ, Value.cells, List.take_zero, List.take_succ_cons, List.take_nil, List.drop_zero, List.drop_succ_cons, List.drop_nil, List.length_cons, List.length_nil, List.cons_append, List.nil_append, List.append_nil, Nat.zero_add, Nat.add_zero, Nat.reduceAdd, Nat.reduceBEq, Nat.reduceEqDiff, Nat.ble, BEq.rfl, Bool.and_true, Bool.and_self, cond_true, beq_self_eq_true]; rfl)) ?_)
      clear hh w; intro w hh
      refine d_step (fun h => absurd h (by decide)) ?_
      refine d_done (by kernel_rfl) ?_
      try clear hM
      have hl2 := hl.add (t := 4) (hl.add (t := 5) (hl.nil) rfl) rfl; clear hl; have hl := hl2; clear hl2
      refine then_normal ?_
      refine wp_ret ?_
      refine blk_ret ?_
      refine then_ret ?_
      refine f_retCC (F' := E2) hl hh rfl rfl rfl agg39 agg53 (by repeat (first | exact find_head | apply find_tail)) (by repeat (first | exact find_head | apply find_tail)) (by first | rfl | (simp; done)) (by first | rfl | (simp; done)) (by repeat (first | exact keeps_nil | apply keeps_cons (by repeat (first | exact find_head | apply find_tail)) (by first  | rfl) | exact keeps_self | exact keeps_left | exact keeps_right | exact keeps_swap | apply keeps_mv)) ?_
      exact stp (st_push0 (by omega)) (StR.push0 hz ho (by omega) hcv hR2)
  · intro hc0
    try simp only [decide_eq_true_eq, decide_eq_false_iff_not, Bool.not_eq_true', Bool.not_eq_false', Bool.not_eq_true, Bool.not_eq_false, Bool.and_eq_true, Bool.or_eq_true, Bool.and_eq_false_iff, Bool.or_eq_false_iff, Bool.not_not, ne_eq, Int.not_lt, Int.not_le, Decidable.not_not, beq_iff_eq, bne_iff_ne] at hc0
    exfalso; first | omega | contradiction | (simp at *; done)

set_option maxHeartbeats 2000000 in
theorem stepD1 (N : Nat) (A : List (Int × Int)) (Z : List (Nat × Obj)) (cv : Int) (hcv : InR cv) (hz : ∀ x ∈ A, x.1 = 0) (ho : AOk A) (p : Option Addr) (c : Nat) (hv : VwZ 1 (.slice p A.length c) A.length (fl u64c A) Z) : SpK Tryz.prog 31 #[.agg ⟨[.slice p A.length c, .slice none 0 0, .int .i64 0]⟩, .agg ⟨[.int .u8 1, .int .u64 cv, .int .u64 0]⟩] (Mem Z) [] (StepPost false N A 1 cv 0 Z) := by
  refine f_enter (args := [.agg ⟨[.slice p A.length c, .slice none 0 0, .int .i64 0]⟩, .agg ⟨[.int .u8 1, .int .u64 cv, .int .u64 0]⟩]) Tryz.func31 rfl Tryz.ntmps31 rfl ?_
  intro w0 w a hpre hl hh
  have hlen := ho.len
  simp only [slotsFrom, Nat.reduceAdd] at hl
  refine c_seq ?_
  refine c_region ?_
  refine wl (w_box hl hh rfl trivial rfl rfl ?_)
  clear hl hh a w; intro k2 a w hl hh
  refine wl (w_box hl hh rfl trivial rfl rfl ?_)
  clear hl hh a w; intro k3 a w hl hh
  refine wl (w_alloc hl hh rfl trivial zero39 rfl ?_)
  clear hl hh a w; intro k4 a w hl hh
  refine wl (w_alloc hl hh rfl trivial zero53 rfl ?_)
  clear hl hh a w; intro k5 a w hl hh
  refine w_nil ?_
  have hl2 := hl.add (t := 2) (hl.add (t := 3) (hl.add (t := 4) (hl.add (t := 5) (hl.nil) rfl) rfl) rfl) rfl; clear hl; have hl := hl2; clear hl2
  refine then_normal ?_
  refine c_seq ?_
  refine c_region ?_
  refine wl (wl_val hl rfl trivial (r_field hl rfl fld53_0) ?_)
  clear hl a; intro a hl
  refine wl (w_load hl hh rfl trivial one50 rfl (by repeat (first | exact find_head | apply find_tail)) (by first | rfl) ?_)
  clear hl a; intro a hl
  refine wl (wl_val hl rfl trivial (r_lenS hl rfl slc50) ?_)
  clear hl a; intro a hl
  refine wl (wl_val hl rfl trivial (r_assign hl rfl) ?_)
  clear hl a; intro a hl
  refine w_nil ?_
  have hl2 := hl.add (t := 2) (hl.add (t := 3) (hl.add (t := 4) (hl.add (t := 5) (hl.add (t := 6) (hl.nil) rfl) rfl) rfl) rfl) rfl; clear hl; have hl := hl2; clear hl2
  refine then_normal ?_
  refine c_seq ?_
  refine c_seq ?_
  refine c_region ?_
  refine wl (wl_val hl rfl trivial (r_field hl rfl fld60_0) ?_)
  clear hl a; intro a hl
  refine wl (w_load hl hh rfl trivial one35 rfl (by repeat (first | exact find_head | apply find_tail)) (by first | rfl) ?_)
  clear hl a; intro a hl
  refine w_nil ?_
  have hl2 := hl.add (t := 2) (hl.add (t := 3) (hl.add (t := 4) (hl.add (t := 5) (hl.add (t := 6) (hl.add (t := 15) (hl.nil) rfl) rfl) rfl) rfl) rfl) rfl; clear hl; have hl := hl2; clear hl2
  refine then_normal ?_
  refine wp_block ?_
  refine c_seq ?_
  refine c_region ?_
  refine wl (wl_val hl rfl trivial (r_eql hl rfl rfl) ?_)
  clear hl a; intro a hl
  refine wl (wl_val hl rfl trivial (r_assign hl rfl) ?_)
  clear hl a; intro a hl
  refine w_nil ?_
  have hl2 := hl.add (t := 2) (hl.add (t := 3) (hl.add (t := 4) (hl.add (t := 5) (hl.add (t := 6) (hl.add (t := 15) (hl.add (t := 16) (hl.nil) rfl) rfl) rfl) rfl) rfl) rfl) rfl; clear hl; have hl := hl2; clear hl2
  refine then_normal ?_
  refine c_cond hl rfl ?_ ?_
  · intro hc0
    try simp only [decide_eq_true_eq, decide_eq_false_iff_not, Bool.not_eq_true', Bool.not_eq_false', Bool.not_eq_true, Bool.not_eq_false, Bool.and_eq_true, Bool.or_eq_true, Bool.and_eq_false_iff, Bool.or_eq_false_iff, Bool.not_not, ne_eq, Int.not_lt, Int.not_le, Decidable.not_not, beq_iff_eq, bne_iff_ne] at hc0
    exfalso; first | omega | contradiction | (simp at *; done)
  · intro hc0
    try simp only [decide_eq_true_eq, decide_eq_false_iff_not, Bool.not_eq_true', Bool.not_eq_false', Bool.not_eq_true, Bool.not_eq_false, Bool.and_eq_true, Bool.or_eq_true, Bool.and_eq_false_iff, Bool.or_eq_false_iff, Bool.not_not, ne_eq, Int.not_lt, Int.not_le, Decidable.not_not, beq_iff_eq, bne_iff_ne] at hc0
    refine c_seq ?_
    refine c_region ?_
    refine wl (wl_val hl rfl trivial (r_eql hl rfl rfl) ?_)
    clear hl a; intro a hl
    refine wl (wl_val hl rfl trivial (r_assign hl rfl) ?_)
    clear hl a; intro a hl
    refine w_nil ?_
    have hl2 := hl.add (t := 2) (hl.add (t := 3) (hl.add (t := 4) (hl.add (t := 5) (hl.add (t := 6) (hl.add (t := 15) (hl.add (t := 31) (hl.nil) rfl) rfl) rfl) rfl) rfl) rfl) rfl; clear hl; have hl := hl2; clear hl2
    refine then_normal ?_
    refine c_cond hl rfl ?_ ?_
    · intro hc2
      try simp only [decide_eq_true_eq, decide_eq_false_iff_not, Bool.not_eq_true', Bool.not_eq_false', Bool.not_eq_true, Bool.not_eq_false, Bool.and_eq_true, Bool.or_eq_true, Bool.and_eq_false_iff, Bool.or_eq_false_iff, Bool.not_not, ne_eq, Int.not_lt, Int.not_le, Decidable.not_not, beq_iff_eq, bne_iff_ne] at hc2
      refine c_seq ?_
      refine c_seq ?_
      refine c_region ?_
      refine wl (wl_val hl rfl trivial (r_move hl rfl) ?_)
      clear hl a; intro a hl
      refine wl (wl_val hl rfl trivial (r_eql hl rfl rfl) ?_)
      clear hl a; intro a hl
      refine w_nil ?_
      have hl2 := hl.add (t := 2) (hl.add (t := 3) (hl.add (t := 4) (hl.add (t := 5) (hl.add (t := 34) (hl.nil) rfl) rfl) rfl) rfl) rfl; clear hl; have hl := hl2; clear hl2
      refine then_normal ?_
      refine c_cond hl rfl ?_ ?_
      · intro hc3
        try simp only [decide_eq_true_eq, decide_eq_false_iff_not, Bool.not_eq_true', Bool.not_eq_false', Bool.not_eq_true, Bool.not_eq_false, Bool.and_eq_true, Bool.or_eq_true, Bool.and_eq_false_iff, Bool.or_eq_false_iff, Bool.not_not, ne_eq, Int.not_lt, Int.not_le, Decidable.not_not, beq_iff_eq, bne_iff_ne] at hc3
        refine c_seq ?_
        refine c_draw [(k2, C [.slice p A.length c, .slice none 0 0, .int .i64 0] 53)] [3] mixed hh ?_
        clear hh w; intro w hh
        have hM : Mem [(k2, C [.slice p A.length c, .slice none 0 0, .int .i64 0] 53)] w := (by (repeat (first | exact Mem.nil | refine Mem.cons hh.mem (by (repeat (first | exact find_head | apply find_tail)); done) ?_ | refine Mem.consR hh (by assumption) (by simp) ?_ | fail)); done)
        refine d_take (i := 0) hl rfl (by kernel_rfl) (by kernel_rfl) (by kernel_rfl) (by kernel_rfl) (by kernel_rfl) rfl trivial (fun _ _ _ h => h) hM (fun w hC => r_build hl rfl zero39 bld39 (by simp only [fillL, setL, List.getElem?_cons_zero, List.getElem?_cons_succ, Value.cells, List.take_zero, List.take_succ_cons, List.take_nil, List.drop_zero, List.drop_succ_cons, List.drop_nil, List.length_cons, List.length_nil, List.cons_append, List.nil_append, List.append_nil, Nat.zero_add, Nat.add_zero, Nat.reduceAdd, Nat.reduceBEq, Nat.reduceEqDiff, Nat.ble, BEq.rfl, Bool.and_true, Bool.and_self, cond_true, beq_self_eq_true]; rfl)) rfl ?_
        clear hl a; intro a hl
        refine d_take (i := 1) hl rfl (by kernel_rfl) (by kernel_rfl) (by kernel_rfl) (by kernel_rfl) (by kernel_rfl) rfl trivial (fun _ _ _ h => h) hM (fun w hC => r_loadCA hl rfl agg53 hC (by repeat (first | exact find_head | apply find_tail)) (by first | (simp only [List.getElem?_cons_zero, List.getElem?_cons_succ, Value.cells, List.take_zero, List.take_succ_cons, List.take_nil, List.drop_zero, List.drop_succ_cons, List.drop_nil, List.length_cons, List.length_nil, List.cons_append, List.nil_append, List.append_nil, Nat.zero_add, Nat.add_zero, Nat.reduceAdd, Nat.reduceBEq, Nat.reduceEqDiff, Nat.ble, BEq.rfl, Bool.and_true, Bool.and_self, cond_true, beq_self_eq_true]; rfl)) (by first | rfl | (simp; done))) rfl ?_
        clear hl a; intro a hl
        refine d_one (i := 2) (by kernel_rfl) rfl ?_
        try clear hM
        refine id (w_storeA hl hh trivial agg39 rfl rfl (by repeat (first | exact find_head | apply find_tail)) (by first | rfl | (simp; done)) (by first | (simp; done) | (simp; omega)) (by first | rfl | (simp; done) | exact one_dq hR3.one | exact one_dq hR2.one | exact one_bf hR3.one | exact one_bf hR2.one) (by first | (simp only [setL, List.getElem?_cons_zero, List.getElem?_cons_succ, Value.cells, List.take_zero, List.take_succ_cons, List.take_nil, List.drop_zero, List.drop_succ_cons, List.drop_nil, List.length_cons, List.length_nil, List.cons_append, List.nil_append, List.append_nil, Nat.zero_add, Nat.add_zero, Nat.reduceAdd, Nat.reduceBEq, Nat.reduceEqDiff, Nat.ble, BEq.rfl, Bool.and_true, Bool.and_self, cond_true, beq_self_eq_true]; rfl)) ?_)
        clear hh w; intro w hh
        have hM : Mem [(k2, C [.slice p A.length c, .slice none 0 0, .int .i64 0] 53)] w := (by (repeat (first | exact Mem.nil | refine Mem.cons hh.mem (by (repeat (first | exact find_head | apply find_tail)); done) ?_ | refine Mem.consR hh (by assumption) (by simp) ?_ | fail)); done)
        refine d_step (fun _ => hM) ?_
        refine d_one (i := 3) (by kernel_rfl) rfl ?_
        try clear hM
        refine id (w_storeA hl hh trivial agg53 rfl rfl (by repeat (first | exact find_head | apply find_tail)) (by first | rfl | (simp; done)) (by first | (simp; done) | (simp; omega)) (by first | rfl | (simp; done) | exact one_dq hR3.one | exact one_dq hR2.one | exact one_bf hR3.one | exact one_bf hR2.one) (by first | (simp only [setL, List.getElem?_cons_zero, List.getElem?_cons_succ, Value.cells, List.take_zero, List.take_succ_cons, List.take_nil, List.drop_zero, List.drop_succ_cons, List.drop_nil, List.length_cons, List.length_nil, List.cons_append, List.nil_append, List.append_nil, Nat.zero_add, Nat.add_zero, Nat.reduceAdd, Nat.reduceBEq, Nat.reduceEqDiff, Nat.ble, BEq.rfl, Bool.and_true, Bool.and_self, cond_true, beq_self_eq_true]; rfl)) ?_)
        clear hh w; intro w hh
        refine d_step (fun h => absurd h (by decide)) ?_
        refine d_done (by kernel_rfl) ?_
        try clear hM
        have hl2 := hl.add (t := 4) (hl.add (t := 5) (hl.nil) rfl) rfl; clear hl; have hl := hl2; clear hl2
        refine then_normal ?_
        refine wp_ret ?_
        refine then_ret ?_
        refine blk_ret ?_
        refine then_ret ?_
        refine f_retCC (F' := []) hl hh rfl rfl rfl agg39 agg53 (by repeat (first | exact find_head | apply find_tail)) (by repeat (first | exact find_head | apply find_tail)) (by first | rfl | (simp; done)) (by first | rfl | (simp; done)) (by repeat (first | exact keeps_nil | apply keeps_cons (by repeat (first | exact find_head | apply find_tail)) (by first  | rfl) | exact keeps_self | exact keeps_left | exact keeps_right | exact keeps_swap | apply keeps_mv)) ?_
        exact stp (st_pushF (.inr rfl) (by omega)) (StR.same (.dq N A Z _ hz ho hv))
      · intro hc3
        try simp only [decide_eq_true_eq, decide_eq_false_iff_not, Bool.not_eq_true', Bool.not_eq_false', Bool.not_eq_true, Bool.not_eq_false, Bool.and_eq_true, Bool.or_eq_true, Bool.and_eq_false_iff, Bool.or_eq_false_iff, Bool.not_not, ne_eq, Int.not_lt, Int.not_le, Decidable.not_not, beq_iff_eq, bne_iff_ne] at hc3
        refine wp_skip ?_
        refine then_normal ?_
        refine c_seq ?_
        refine c_draw [(k2, C [.slice p A.length c, .slice none 0 0, .int .i64 0] 53), (k3, C [.int .u8 1, .int .u64 cv, .int .u64 0] 60)] [7, 8, 9] mixed hh ?_
        clear hh w; intro w hh
        have hM : Mem [(k2, C [.slice p A.length c, .slice none 0 0, .int .i64 0] 53), (k3, C [.int .u8 1, .int .u64 cv, .int .u64 0] 60)] w := (by (repeat (first | exact Mem.nil | refine Mem.cons hh.mem (by (repeat (first | exact find_head | apply find_tail)); done) ?_ | refine Mem.consR hh (by assumption) (by simp) ?_ | fail)); done)
        refine d_take (i := 1) hl rfl (by kernel_rfl) (by kernel_rfl) (by kernel_rfl) (by kernel_rfl) (by kernel_rfl) rfl trivial (fun _ _ _ h => h) hM (fun w hC => r_field hl rfl fld53_0) rfl ?_
        clear hl a; intro a hl
        refine d_take (i := 2) hl rfl (by kernel_rfl) (by kernel_rfl) (by kernel_rfl) (by kernel_rfl) (by kernel_rfl) rfl trivial (fun _ _ _ h => h) hM (fun w hC => r_loadC hl rfl one50 hC (by repeat (first | exact find_head | apply find_tail)) (by first | rfl)) rfl ?_
        clear hl a; intro a hl
        refine d_take (i := 4) hl rfl (by kernel_rfl) (by kernel_rfl) (by kernel_rfl) (by kernel_rfl) (by kernel_rfl) rfl trivial (fun _ _ _ h => h) hM (fun w hC => r_field hl rfl fld60_1) rfl ?_
        clear hl a; intro a hl
        refine d_take (i := 5) hl rfl (by kernel_rfl) (by kernel_rfl) (by kernel_rfl) (by kernel_rfl) (by kernel_rfl) rfl trivial (fun _ _ _ h => h) hM (fun w hC => r_loadC hl rfl one37 hC (by repeat (first | exact find_head | apply find_tail)) (by first | rfl)) rfl ?_
        clear hl a; intro a hl
        refine d_two (i := 0) (j := 6) (by kernel_rfl) rfl rfl ?_ ?_
        ·
          try clear hM
          refine id (w_buildSlice0 hl hh rfl trivial app50 ?_)
          clear hl hh a w; intro k37 a w hl hh
          have hM : Mem [(k2, C [.slice p A.length c, .slice none 0 0, .int .i64 0] 53), (k3, C [.int .u8 1, .int .u64 cv, .int .u64 0] 60)] w := (by (repeat (first | exact Mem.nil | refine Mem.cons hh.mem (by (repeat (first | exact find_head | apply find_tail)); done) ?_ | refine Mem.consR hh (by assumption) (by simp) ?_ | fail)); done)
          refine d_step (fun _ => hM) ?_
          refine d_two (i := 3) (j := 6) (by kernel_rfl) rfl rfl ?_ ?_
          ·
            try clear hM
            refine id (w_appendV hl hh rfl trivial app50 rfl rfl rfl (row0 k37 1 37) (by repeat (first | exact keeps_nil | apply keeps_cons (by repeat (first | exact find_head | apply find_tail)) (by first  | rfl) | exact keeps_self | exact keeps_left | exact keeps_right | exact keeps_swap | apply keeps_mv)) hv (mem_keep hh hpre) (fl_all u64c_one _) (by simp only [Nat.zero_add]; omega) (by omega) (by decide) ?_)
            clear hl hh a w; intro rv2 E2 a w hR2 hl hh
            have hh3 := hh.comm; clear hh; have hh := hh3; clear hh3
            simp only [List.cons_append, List.nil_append] at hh
            have hM : Mem [(k2, C [.slice p A.length c, .slice none 0 0, .int .i64 0] 53), (k3, C [.int .u8 1, .int .u64 cv, .int .u64 0] 60)] w := (by (repeat (first | exact Mem.nil | refine Mem.cons hh.mem (by (repeat (first | exact find_head | apply find_tail)); done) ?_ | refine Mem.consR hh (by assumption) (by simp) ?_ | fail)); done)
            refine d_step (fun _ => hM) ?_
            refine d_one (i := 6) (by kernel_rfl) rfl ?_
            try clear hM
            refine id (w_buildSlice hl hh rfl trivial app50 zero37 rfl rfl rfl rfl rfl (by simp only [fillL, arrPl, List.range_succ, List.range_zero, List.map_cons, List.map_nil, List.map_append, List.nil_append, List.replicate_succ, List.replicate_zero, List.flatten_cons, List.flatten_nil, Nat.zero_mul, Nat.mul_one, Nat.one_mul, Nat.reduceMul, setL, List.getElem?_cons_zero, List.getElem?_cons_succ, Value.cells, List.take_zero, List.take_succ_cons, List.take_nil, List.drop_zero, List.drop_succ_cons, List.drop_nil, List.length_cons, List.length_nil, List.cons_append, List.nil_append, List.append_nil, Nat.zero_add, Nat.add_zero, Nat.reduceAdd, Nat.reduceBEq, Nat.reduceEqDiff, Nat.ble, BEq.rfl, Bool.and_true, Bool.and_self, cond_true, beq_self_eq_true]; rfl) ?_)
            clear hl hh a w; intro k43 a w hl hh
            have hM : Mem [(k2, C [.slice p A.length c, .slice none 0 0, .int .i64 0] 53), (k3, C [.int .u8 1, .int .u64 cv, .int .u64 0] 60)] w := (by (repeat (first | exact Mem.nil | refine Mem.cons hh.mem (by (repeat (first | exact find_head | apply find_tail)); done) ?_ | refine Mem.consR hh (by assumption) (by simp) ?_ | fail)); done)
            refine d_step (fun _ => hM) ?_
            refine d_one (i := 7) (by kernel_rfl) rfl ?_
            try clear hM
            refine id (w_append (news := [.int .u64 cv]) hl hh rfl trivial app50 rfl rfl rfl hR2 (by repeat (first | exact keeps_nil | apply keeps_cons (by repeat (first | exact find_head | apply find_tail)) (by first  | rfl) | exact keeps_self | exact keeps_left | exact keeps_right | exact keeps_swap | apply keeps_mv)) (hh.mem _ _ (Find.mem (by repeat (first | exact find_head | apply find_tail)))) rfl rfl rfl (by omega) (by simp only [Nat.zero_add]; omega) (by omega) (by decide) ?_)
            clear hl hh a w; intro rv3 E3 a w hR3 hl hh
            have hh3 := hh.comm; clear hh; have hh := hh3; clear hh3
            simp only [List.cons_append, List.nil_append] at hh
            refine d_step (fun h => absurd h (by decide)) ?_
            refine d_takeL (i := 8) hl rfl (by kernel_rfl) (by kernel_rfl) (by kernel_rfl) (by kernel_rfl) (by kernel_rfl) rfl trivial (fun _ _ _ h => h) (fun w => r_field hl rfl fld53_0) rfl ?_
            clear hl a; intro a hl
            refine d_one (i := 9) (by kernel_rfl) rfl ?_
            try clear hM
            refine id (w_store hl hh trivial one50 rfl rfl (by repeat (first | exact find_head | apply find_tail)) (by first | (simp; done) | (simp; omega)) (by first | rfl | assumption | (apply Row.one; assumption)) (by first | (simp only [setL, List.getElem?_cons_zero, List.getElem?_cons_succ, Value.cells, List.take_zero, List.take_succ_cons, List.take_nil, List.drop_zero, List.drop_succ_cons, List.drop_nil, List.length_cons, List.length_nil, List.cons_append, List.nil_append, List.append_nil, Nat.zero_add, Nat.add_zero, Nat.reduceAdd, Nat.reduceBEq, Nat.reduceEqDiff, Nat.ble, BEq.rfl, Bool.and_true, Bool.and_self, cond_true, beq_self_eq_true]; rfl)) ?_)
            clear hh w; intro w hh
            refine d_step (fun h => absurd h (by decide)) ?_
            refine d_done (by kernel_rfl) ?_
            try clear hM
            have hl2 := hl.add (t := 2) (hl.add (t := 4) (hl.add (t := 5) (hl.nil) rfl) rfl) rfl; clear hl; have hl := hl2; clear hl2
            refine then_normal ?_
            refine c_seq ?_
            refine c_draw [(k2, C [rv3, .slice none 0 0, .int .i64 0] 53)] [3] mixed hh ?_
            clear hh w; intro w hh
            have hM : Mem [(k2, C [rv3, .slice none 0 0, .int .i64 0] 53)] w := (by (repeat (first | exact Mem.nil | refine Mem.cons hh.mem (by (repeat (first | exact find_head | apply find_tail)); done) ?_ | refine Mem.consR hh (by assumption) (by simp) ?_ | fail)); done)
            refine d_take (i := 0) hl rfl (by kernel_rfl) (by kernel_rfl) (by kernel_rfl) (by kernel_rfl) (by kernel_rfl) rfl trivial (fun _ _ _ h => h) hM (fun w hC => r_build hl rfl zero39 bld39 (by simp only [fillL, setL, List.getElem?_cons_zero, List.getElem?_cons_succ, Value.cells, List.take_zero, List.take_succ_cons, List.take_nil, List.drop_zero, List.drop_succ_cons, List.drop_nil, List.length_cons, List.length_nil, List.cons_append, List.nil_append, List.append_nil, Nat.zero_add, Nat.add_zero, Nat.reduceAdd, Nat.reduceBEq, Nat.reduceEqDiff, Nat.ble, BEq.rfl, Bool.and_true, Bool.and_self, cond_true, beq_self_eq_true]; rfl)) rfl ?_
            clear hl a; intro a hl
            refine d_take (i := 1) hl rfl (by kernel_rfl) (by kernel_rfl) (by kernel_rfl) (by kernel_rfl) (by kernel_rfl) rfl trivial (fun _ _ _ h => h) hM (fun w hC => r_loadCA hl rfl agg53 hC (by repeat (first | exact find_head | apply find_tail)) (by first | (simp only [List.getElem?_cons_zero, List.getElem?_cons_succ, Value.cells, List.take_zero, List.take_succ_cons, List.take_nil, List.drop_zero, List.drop_succ_cons, List.drop_nil, List.length_cons, List.length_nil, List.cons_append, List.nil_append, List.append_nil, Nat.zero_add, Nat.add_zero, Nat.reduceAdd, Nat.reduceBEq, Nat.reduceEqDiff, Nat.ble, BEq.rfl, Bool.and_true, Bool.and_self, cond_true, beq_self_eq_true]; rfl)) (by first | rfl | (simp; done))) rfl ?_
            clear hl a; intro a hl
            refine d_one (i := 2) (by kernel_rfl) rfl ?_
            try clear hM
            refine id (w_storeA hl hh trivial agg39 rfl rfl (by repeat (first | exact find_head | apply find_tail)) (by first | rfl | (simp; done)) (by first | (simp; done) | (simp; omega)) (by first | rfl | (simp; done) | exact one_dq hR3.one | exact one_dq hR2.one | exact one_bf hR3.one | exact one_bf hR2.one) (by first | (simp only [setL, List.getElem?_cons_zero, List.getElem?_cons_succ, Value.cells, List.take_zero, List.take_succ_cons, List.take_nil, List.drop_zero, List.drop_succ_cons, List.drop_nil, List.length_cons, List.length_nil, List.cons_append, List.nil_append, List.append_nil, Nat.zero_add, Nat.add_zero, Nat.reduceAdd, Nat.reduceBEq, Nat.reduceEqDiff, Nat.ble, BEq.rfl, Bool.and_true, Bool.and_self, cond_true, beq_self_eq_true]; rfl)) ?_)
            clear hh w; intro w hh
            have hM : Mem [(k2, C [rv3, .slice none 0 0, .int .i64 0] 53)] w := (by (repeat (first | exact Mem.nil | refine Mem.cons hh.mem (by (repeat (first | exact find_head | apply find_tail)); done) ?_ | refine Mem.consR hh (by assumption) (by simp) ?_ | fail)); done)
            refine d_step (fun _ => hM) ?_
            refine d_one (i := 3) (by kernel_rfl) rfl ?_
            try clear hM
            refine id (w_storeA hl hh trivial agg53 rfl rfl (by repeat (first | exact find_head | apply find_tail)) (by first | rfl | (simp; done)) (by first | (simp; done) | (simp; omega)) (by first | rfl | (simp; done) | exact one_dq hR3.one | exact one_dq hR2.one | exact one_bf hR3.one | exact one_bf hR2.one) (by first | (simp only [setL, List.getElem?_cons_zero, List.getElem?_cons_succ, Value.cells, List.take_zero, List.take_succ_cons, List.take_nil, List.drop_zero, List.drop_succ_cons, List.drop_nil, List.length_cons, List.length_nil, List.cons_append, List.nil_append, List.append_nil, Nat.zero_add, Nat.add_zero, Nat.reduceAdd, Nat.reduceBEq, Nat.reduceEqDiff, Nat.ble, BEq.rfl, Bool.and_true, Bool.and_self, cond_true, beq_self_eq_true]; rfl)) ?_)
            clear hh w; intro w hh
            refine d_step (fun h => absurd h (by decide)) ?_
            refine d_done (by kernel_rfl) ?_
            try clear hM
            have hl2 := hl.add (t := 4) (hl.add (t := 5) (hl.nil) rfl) rfl; clear hl; have hl := hl2; clear hl2
            refine then_normal ?_
            refine wp_ret ?_
            refine blk_ret ?_
            refine then_ret ?_
            refine f_retCC (F' := E3) hl hh rfl rfl rfl agg39 agg53 (by repeat (first | exact find_head | apply find_tail)) (by repeat (first | exact find_head | apply find_tail)) (by first | rfl | (simp; done)) (by first | rfl | (simp; done)) (by repeat (first | exact keeps_nil | apply keeps_cons (by repeat (first | exact find_head | apply find_tail)) (by first  | rfl) | exact keeps_self | exact keeps_left | exact keeps_right | exact keeps_swap | apply keeps_mv)) ?_
            exact stp (st_push1 (by omega)) (StR.push1 hz ho (by omega) hcv hR3)
          ·
            try clear hM
            refine id (w_buildSlice hl hh rfl trivial app50 zero37 rfl rfl rfl rfl rfl (by simp only [fillL, arrPl, List.range_succ, List.range_zero, List.map_cons, List.map_nil, List.map_append, List.nil_append, List.replicate_succ, List.replicate_zero, List.flatten_cons, List.flatten_nil, Nat.zero_mul, Nat.mul_one, Nat.one_mul, Nat.reduceMul, setL, List.getElem?_cons_zero, List.getElem?_cons_succ, Value.cells, List.take_zero, List.take_succ_cons, List.take_nil, List.drop_zero, List.drop_succ_cons, List.drop_nil, List.length_cons, List.length_nil, List.cons_append, List.nil_append, List.append_nil, Nat.zero_add, Nat.add_zero, Nat.reduceAdd, Nat.reduceBEq, Nat.reduceEqDiff, Nat.ble, BEq.rfl, Bool.and_true, Bool.and_self, cond_true, beq_self_eq_true]; rfl) ?_)
            clear hl hh a w; intro k43 a w hl hh
            have hM : Mem [(k2, C [.slice p A.length c, .slice none 0 0, .int .i64 0] 53), (k3, C [.int .u8 1, .int .u64 cv, .int .u64 0] 60)] w := (by (repeat (first | exact Mem.nil | refine Mem.cons hh.mem (by (repeat (first | exact find_head | apply find_tail)); done) ?_ | refine Mem.consR hh (by assumption) (by simp) ?_ | fail)); done)
            refine d_step (fun _ => hM) ?_
            refine d_one (i := 3) (by kernel_rfl) rfl ?_
            try clear hM
            refine id (w_appendV hl hh rfl trivial app50 rfl rfl rfl (row0 k37 1 37) (by repeat (first | exact keeps_nil | apply keeps_cons (by repeat (first | exact find_head | apply find_tail)) (by first  | rfl) | exact keeps_self | exact keeps_left | exact keeps_right | exact keeps_swap | apply keeps_mv)) hv (mem_keep hh hpre) (fl_all u64c_one _) (by simp only [Nat.zero_add]; omega) (by omega) (by decide) ?_)
            clear hl hh a w; intro rv2 E2 a w hR2 hl hh
            have hh3 := hh.comm; clear hh; have hh := hh3; clear hh3
            simp only [List.cons_append, List.nil_append] at hh
            have hM : Mem [(k2, C [.slice p A.length c, .slice none 0 0, .int .i64 0] 53), (k3, C [.int .u8 1, .int .u64 cv, .int .u64 0] 60)] w := (by (repeat (first | exact Mem.nil | refine Mem.cons hh.mem (by (repeat (first | exact find_head | apply find_tail)); done) ?_ | refine Mem.consR hh (by assumption) (by simp) ?_ | fail)); done)
            refine d_step (fun _ => hM) ?_
            refine d_one (i := 7) (by kernel_rfl) rfl ?_
            try clear hM
            refine id (w_append (news := [.int .u64 cv]) hl hh rfl trivial app50 rfl rfl rfl hR2 (by repeat (first | exact keeps_nil | apply keeps_cons (by repeat (first | exact find_head | apply find_tail)) (by first  | rfl) | exact keeps_self | exact keeps_left | exact keeps_right | exact keeps_swap | apply keeps_mv)) (hh.mem _ _ (Find.mem (by repeat (first | exact find_head | apply find_tail)))) rfl rfl rfl (by omega) (by simp only [Nat.zero_add]; omega) (by omega) (by decide) ?_)
            clear hl hh a w; intro rv3 E3 a w hR3 hl hh
            have hh3 := hh.comm; clear hh; have hh := hh3; clear hh3
            simp only [List.cons_append, List.nil_append] at hh
            refine d_step (fun h => absurd h (by decide)) ?_
            refine d_takeL (i := 8) hl rfl (by kernel_rfl) (by kernel_rfl) (by kernel_rfl) (by kernel_rfl) (by kernel_rfl) rfl trivial (fun _ _ _ h => h) (fun w => r_field hl rfl fld53_0) rfl ?_
            clear hl a; intro a hl
            refine d_one (i := 9) (by kernel_rfl) rfl ?_
            try clear hM
            refine id (w_store hl hh trivial one50 rfl rfl (by repeat (first | exact find_head | apply find_tail)) (by first | (simp; done) | (simp; omega)) (by first | rfl | assumption | (apply Row.one; assumption)) (by first | (simp only [setL, List.getElem?_cons_zero, List.getElem?_cons_succ, Value.cells, List.take_zero, List.take_succ_cons, List.take_nil, List.drop_zero, List.drop_succ_cons, List.drop_nil, List.length_cons, List.length_nil, List.cons_append, List.nil_append, List.append_nil, Nat.zero_add, Nat.add_zero, Nat.reduceAdd, Nat.reduceBEq, Nat.reduceEqDiff, Nat.ble, BEq.rfl, Bool.and_true, Bool.and_self, cond_true, beq_self_eq_true]; rfl)) ?_)
            clear hh w; intro w hh
            refine d_step (fun h => absurd h (by decide)) ?_
            refine d_done (by kernel_rfl) ?_
            try clear hM
            have hl2 := hl.add (t := 2) (hl.add (t := 4) (hl.add (t := 5) (hl.nil) rfl) rfl) rfl; clear hl; have hl := hl2; clear hl2
            refine then_normal ?_
            refine c_seq ?_
            refine c_draw [(k2, C [rv3, .slice none 0 0, .int .i64 0] 53)] [3] mixed hh ?_
            clear hh w; intro w hh
            have hM : Mem [(k2, C [rv3, .slice none 0 0, .int .i64 0] 53)] w := (by (repeat (first | exact Mem.nil | refine Mem.cons hh.mem (by (repeat (first | exact find_head | apply find_tail)); done) ?_ | refine Mem.consR hh (by assumption) (by simp) ?_ | fail)); done)
            refine d_take (i := 0) hl rfl (by kernel_rfl) (by kernel_rfl) (by kernel_rfl) (by kernel_rfl) (by kernel_rfl) rfl trivial (fun _ _ _ h => h) hM (fun w hC => r_build hl rfl zero39 bld39 (by simp only [fillL, setL, List.getElem?_cons_zero, List.getElem?_cons_succ, Value.cells, List.take_zero, List.take_succ_cons, List.take_nil, List.drop_zero, List.drop_succ_cons, List.drop_nil, List.length_cons, List.length_nil, List.cons_append, List.nil_append, List.append_nil, Nat.zero_add, Nat.add_zero, Nat.reduceAdd, Nat.reduceBEq, Nat.reduceEqDiff, Nat.ble, BEq.rfl, Bool.and_true, Bool.and_self, cond_true, beq_self_eq_true]; rfl)) rfl ?_
            clear hl a; intro a hl
            refine d_take (i := 1) hl rfl (by kernel_rfl) (by kernel_rfl) (by kernel_rfl) (by kernel_rfl) (by kernel_rfl) rfl trivial (fun _ _ _ h => h) hM (fun w hC => r_loadCA hl rfl agg53 hC (by repeat (first | exact find_head | apply find_tail)) (by first | (simp only [List.getElem?_cons_zero, List.getElem?_cons_succ, Value.cells, List.take_zero, List.take_succ_cons, List.take_nil, List.drop_zero, List.drop_succ_cons, List.drop_nil, List.length_cons, List.length_nil, List.cons_append, List.nil_append, List.append_nil, Nat.zero_add, Nat.add_zero, Nat.reduceAdd, Nat.reduceBEq, Nat.reduceEqDiff, Nat.ble, BEq.rfl, Bool.and_true, Bool.and_self, cond_true, beq_self_eq_true]; rfl)) (by first | rfl | (simp; done))) rfl ?_
            clear hl a; intro a hl
            refine d_one (i := 2) (by kernel_rfl) rfl ?_
            try clear hM
            refine id (w_storeA hl hh trivial agg39 rfl rfl (by repeat (first | exact find_head | apply find_tail)) (by first | rfl | (simp; done)) (by first | (simp; done) | (simp; omega)) (by first | rfl | (simp; done) | exact one_dq hR3.one | exact one_dq hR2.one | exact one_bf hR3.one | exact one_bf hR2.one) (by first | (simp only [setL, List.getElem?_cons_zero, List.getElem?_cons_succ, Value.cells, List.take_zero, List.take_succ_cons, List.take_nil, List.drop_zero, List.drop_succ_cons, List.drop_nil, List.length_cons, List.length_nil, List.cons_append, List.nil_append, List.append_nil, Nat.zero_add, Nat.add_zero, Nat.reduceAdd, Nat.reduceBEq, Nat.reduceEqDiff, Nat.ble, BEq.rfl, Bool.and_true, Bool.and_self, cond_true, beq_self_eq_true]; rfl)) ?_)
            clear hh w; intro w hh
            have hM : Mem [(k2, C [rv3, .slice none 0 0, .int .i64 0] 53)] w := (by (repeat (first | exact Mem.nil | refine Mem.cons hh.mem (by (repeat (first | exact find_head | apply find_tail)); done) ?_ | refine Mem.consR hh (by assumption) (by simp) ?_ | fail)); done)
            refine d_step (fun _ => hM) ?_
            refine d_one (i := 3) (by kernel_rfl) rfl ?_
            try clear hM
            refine id (w_storeA hl hh trivial agg53 rfl rfl (by repeat (first | exact find_head | apply find_tail)) (by first | rfl | (simp; done)) (by first | (simp; done) | (simp; omega)) (by first | rfl | (simp; done) | exact one_dq hR3.one | exact one_dq hR2.one | exact one_bf hR3.one | exact one_bf hR2.one) (by first | (simp only [setL, List.getElem?_cons_zero, List.getElem?_cons_succ, Value.cells, List.take_zero, List.take_succ_cons, List.take_nil, List.drop_zero, List.drop_succ_cons, List.drop_nil, List.length_cons, List.length_nil, List.cons_append, List.nil_append, List.append_nil, Nat.zero_add, Nat.add_zero, Nat.reduceAdd, Nat.reduceBEq, Nat.reduceEqDiff, Nat.ble, BEq.rfl, Bool.and_true, Bool.and_self, cond_true, beq_self_eq_true]; rfl)) ?_)
            clear hh w; intro w hh
            refine d_step (fun h => absurd h (by decide)) ?_
            refine d_done (by kernel_rfl) ?_
            try clear hM
            have hl2 := hl.add (t := 4) (hl.add (t := 5) (hl.nil) rfl) rfl; clear hl; have hl := hl2; clear hl2
            refine then_normal ?_
            refine wp_ret ?_
            refine blk_ret ?_
            refine then_ret ?_
            refine f_retCC (F' := E3) hl hh rfl rfl rfl agg39 agg53 (by repeat (first | exact find_head | apply find_tail)) (by repeat (first | exact find_head | apply find_tail)) (by first | rfl | (simp; done)) (by first | rfl | (simp; done)) (by repeat (first | exact keeps_nil | apply keeps_cons (by repeat (first | exact find_head | apply find_tail)) (by first  | rfl) | exact keeps_self | exact keeps_left | exact keeps_right | exact keeps_swap | apply keeps_mv)) ?_
            exact stp (st_push1 (by omega)) (StR.push1 hz ho (by omega) hcv hR3)
        ·
          try clear hM
          refine id (w_buildSlice hl hh rfl trivial app50 zero37 rfl rfl rfl rfl rfl (by simp only [fillL, arrPl, List.range_succ, List.range_zero, List.map_cons, List.map_nil, List.map_append, List.nil_append, List.replicate_succ, List.replicate_zero, List.flatten_cons, List.flatten_nil, Nat.zero_mul, Nat.mul_one, Nat.one_mul, Nat.reduceMul, setL, List.getElem?_cons_zero, List.getElem?_cons_succ, Value.cells, List.take_zero, List.take_succ_cons, List.take_nil, List.drop_zero, List.drop_succ_cons, List.drop_nil, List.length_cons, List.length_nil, List.cons_append, List.nil_append, List.append_nil, Nat.zero_add, Nat.add_zero, Nat.reduceAdd, Nat.reduceBEq, Nat.reduceEqDiff, Nat.ble, BEq.rfl, Bool.and_true, Bool.and_self, cond_true, beq_self_eq_true]; rfl) ?_)
          clear hl hh a w; intro k43 a w hl hh
          have hM : Mem [(k2, C [.slice p A.length c, .slice none 0 0, .int .i64 0] 53), (k3, C [.int .u8 1, .int .u64 cv, .int .u64 0] 60)] w := (by (repeat (first | exact Mem.nil | refine Mem.cons hh.mem (by (repeat (first | exact find_head | apply find_tail)); done) ?_ | refine Mem.consR hh (by assumption) (by simp) ?_ | fail)); done)
          refine d_step (fun _ => hM) ?_
          refine d_one (i := 0) (by kernel_rfl) rfl ?_
          try clear hM
          refine id (w_buildSlice0 hl hh rfl trivial app50 ?_)
          clear hl hh a w; intro k37 a w hl hh
          have hM : Mem [(k2, C [.slice p A.length c, .slice none 0 0, .int .i64 0] 53), (k3, C [.int .u8 1, .int .u64 cv, .int .u64 0] 60)] w := (by (repeat (first | exact Mem.nil | refine Mem.cons hh.mem (by (repeat (first | exact find_head | apply find_tail)); done) ?_ | refine Mem.consR hh (by assumption) (by simp) ?_ | fail)); done)
          refine d_step (fun _ => hM) ?_
          refine d_one (i := 3) (by kernel_rfl) rfl ?_
          try clear hM
          refine id (w_appendV hl hh rfl trivial app50 rfl rfl rfl (row0 k37 1 37) (by repeat (first | exact keeps_nil | apply keeps_cons (by repeat (first | exact find_head | apply find_tail)) (by first  | rfl) | exact keeps_self | exact keeps_left | exact keeps_right | exact keeps_swap | apply keeps_mv)) hv (mem_keep hh hpre) (fl_all u64c_one _) (by simp only [Nat.zero_add]; omega) (by omega) (by decide) ?_)
          clear hl hh a w; intro rv2 E2 a w hR2 hl hh
          have hh3 := hh.comm; clear hh; have hh := hh3; clear hh3
          simp only [List.cons_append, List.nil_append] at hh
          have hM : Mem [(k2, C [.slice p A.length c, .slice none 0 0, .int .i64 0] 53), (k3, C [.int .u8 1, .int .u64 cv, .int .u64 0] 60)] w := (by (repeat (first | exact Mem.nil | refine Mem.cons hh.mem (by (repeat (first | exact find_head | apply find_tail)); done) ?_ | refine Mem.consR hh (by assumption) (by simp) ?_ | fail)); done)
          refine d_step (fun _ => hM) ?_
          refine d_one (i := 7) (by kernel_rfl) rfl ?_
          try clear hM
          refine id (w_append (news := [.int .u64 cv]) hl hh rfl trivial app50 rfl rfl rfl hR2 (by repeat (first | exact keeps_nil | apply keeps_cons (by repeat (first | exact find_head | apply find_tail)) (by first  | rfl) | exact keeps_self | exact keeps_left | exact keeps_right | exact keeps_swap | apply keeps_mv)) (hh.mem _ _ (Find.mem (by repeat (first | exact find_head | apply find_tail)))) rfl rfl rfl (by omega) (by simp only [Nat.zero_add]; omega) (by omega) (by decide) ?_)
          clear hl hh a w; intro rv3 E3 a w hR3 hl hh
          have hh3 := hh.comm; clear hh; have hh := hh3; clear hh3
          simp only [List.cons_append, List.nil_append] at hh
          refine d_step (fun h => absurd h (by decide)) ?_
          refine d_takeL (i := 8) hl rfl (by kernel_rfl) (by kernel_rfl) (by kernel_rfl) (by kernel_rfl) (by kernel_rfl) rfl trivial (fun _ _ _ h => h) (fun w => r_field hl rfl fld53_0) rfl ?_
          clear hl a; intro a hl
          refine d_one (i := 9) (by kernel_rfl) rfl ?_
          try clear hM
          refine id (w_store hl hh trivial one50 rfl rfl (by repeat (first | exact find_head | apply find_tail)) (by first | (simp; done) | (simp; omega)) (by first | rfl | assumption | (apply Row.one; assumption)) (by first | (simp only [setL, List.getElem?_cons_zero, List.getElem?_cons_succ, Value.cells, List.take_zero, List.take_succ_cons, List.take_nil, List.drop_zero, List.drop_succ_cons, List.drop_nil, List.length_cons, List.length_nil, List.cons_append, List.nil_append, List.append_nil, Nat.zero_add, Nat.add_zero, Nat.reduceAdd, Nat.reduceBEq, Nat.reduceEqDiff, Nat.ble, BEq.rfl, Bool.and_true, Bool.and_self, cond_true, beq_self_eq_true]; rfl)) ?_)
          clear hh w; intro w hh
          refine d_step (fun h => absurd h (by decide)) ?_
          refine d_done (by kernel_rfl) ?_
          try clear hM
          have hl2 := hl.add (t := 2) (hl.add (t := 4) (hl.add (t := 5) (hl.nil) rfl) rfl) rfl; clear hl; have hl := hl2; clear hl2
          refine then_normal ?_
          refine c_seq ?_
          refine c_draw [(k2, C [rv3, .slice none 0 0, .int .i64 0] 53)] [3] mixed hh ?_
          clear hh w; intro w hh
          have hM : Mem [(k2, C [rv3, .slice none 0 0, .int .i64 0] 53)] w := (by (repeat (first | exact Mem.nil | refine Mem.cons hh.mem (by (repeat (first | exact find_head | apply find_tail)); done) ?_ | refine Mem.consR hh (by assumption) (by simp) ?_ | fail)); done)
          refine d_take (i := 0) hl rfl (by kernel_rfl) (by kernel_rfl) (by kernel_rfl) (by kernel_rfl) (by kernel_rfl) rfl trivial (fun _ _ _ h => h) hM (fun w hC => r_build hl rfl zero39 bld39 (by simp only [fillL, setL, List.getElem?_cons_zero, List.getElem?_cons_succ, Value.cells, List.take_zero, List.take_succ_cons, List.take_nil, List.drop_zero, List.drop_succ_cons, List.drop_nil, List.length_cons, List.length_nil, List.cons_append, List.nil_append, List.append_nil, Nat.zero_add, Nat.add_zero, Nat.reduceAdd, Nat.reduceBEq, Nat.reduceEqDiff, Nat.ble, BEq.rfl, Bool.and_true, Bool.and_self, cond_true, beq_self_eq_true]; rfl)) rfl ?_
          clear hl a; intro a hl
          refine d_take (i := 1) hl rfl (by kernel_rfl) (by kernel_rfl) (by kernel_rfl) (by kernel_rfl) (by kernel_rfl) rfl trivial (fun _ _ _ h => h) hM (fun w hC => r_loadCA hl rfl agg53 hC (by repeat (first | exact find_head | apply find_tail)) (by first | (simp only [List.getElem?_cons_zero, List.getElem?_cons_succ, Value.cells, List.take_zero, List.take_succ_cons, List.take_nil, List.drop_zero, List.drop_succ_cons, List.drop_nil, List.length_cons, List.length_nil, List.cons_append, List.nil_append, List.append_nil, Nat.zero_add, Nat.add_zero, Nat.reduceAdd, Nat.reduceBEq, Nat.reduceEqDiff, Nat.ble, BEq.rfl, Bool.and_true, Bool.and_self, cond_true, beq_self_eq_true]; rfl)) (by first | rfl | (simp; done))) rfl ?_
          clear hl a; intro a hl
          refine d_one (i := 2) (by kernel_rfl) rfl ?_
          try clear hM
          refine id (w_storeA hl hh trivial agg39 rfl rfl (by repeat (first | exact find_head | apply find_tail)) (by first | rfl | (simp; done)) (by first | (simp; done) | (simp; omega)) (by first | rfl | (simp; done) | exact one_dq hR3.one | exact one_dq hR2.one | exact one_bf hR3.one | exact one_bf hR2.one) (by first | (simp only [setL, List.getElem?_cons_zero, List.getElem?_cons_succ, Value.cells, List.take_zero, List.take_succ_cons, List.take_nil, List.drop_zero, List.drop_succ_cons, List.drop_nil, List.length_cons, List.length_nil, List.cons_append, List.nil_append, List.append_nil, Nat.zero_add, Nat.add_zero, Nat.reduceAdd, Nat.reduceBEq, Nat.reduceEqDiff, Nat.ble, BEq.rfl, Bool.and_true, Bool.and_self, cond_true, beq_self_eq_true]; rfl)) ?_)
          clear hh w; intro w hh
          have hM : Mem [(k2, C [rv3, .slice none 0 0, .int .i64 0] 53)] w := (by (repeat (first | exact Mem.nil | refine Mem.cons hh.mem (by (repeat (first | exact find_head | apply find_tail)); done) ?_ | refine Mem.consR hh (by assumption) (by simp) ?_ | fail)); done)
          refine d_step (fun _ => hM) ?_
          refine d_one (i := 3) (by kernel_rfl) rfl ?_
          try clear hM
          refine id (w_storeA hl hh trivial agg53 rfl rfl (by repeat (first | exact find_head | apply find_tail)) (by first | rfl | (simp; done)) (by first | (simp; done) | (simp; omega)) (by first | rfl | (simp; done) | exact one_dq hR3.one | exact one_dq hR2.one | exact one_bf hR3.one | exact one_bf hR2.one) (by first | (simp only [setL, List.getElem?_cons_zero, List.getElem?_cons_succ, Value.cells, List.take_zero, List.take_succ_cons, List.take_nil, List.drop_zero, List.drop_succ_cons, List.drop_nil, List.length_cons, List.length_nil, List.cons_append, List.nil_append, List.append_nil, Nat.zero_add, Nat.add_zero, Nat.reduceAdd, Nat.reduceBEq, Nat.reduceEqDiff, Nat.ble, BEq.rfl, Bool.and_true, Bool.and_self, cond_true, beq_self_eq_true]; rfl)) ?_)
          clear hh w; intro w hh
          refine d_step (fun h => absurd h (by decide)) ?_
          refine d_done (by kernel_rfl) ?_
          try clear hM
          have hl2 := hl.add (t := 4) (hl.add (t := 5) (hl.nil) rfl) rfl; clear hl; have hl := hl2; clear hl2
          refine then_normal ?_
          refine wp_ret ?_
          refine blk_ret ?_
          refine then_ret ?_
          refine f_retCC (F' := E3) hl hh rfl rfl rfl agg39 agg53 (by repeat (first | exact find_head | apply find_tail)) (by repeat (first | exact find_head | apply find_tail)) (by first | rfl | (simp; done)) (by first | rfl | (simp; done)) (by repeat (first | exact keeps_nil | apply keeps_cons (by repeat (first | exact find_head | apply find_tail)) (by first  | rfl) | exact keeps_self | exact keeps_left | exact keeps_right | exact keeps_swap | apply keeps_mv)) ?_
          exact stp (st_push1 (by omega)) (StR.push1 hz ho (by omega) hcv hR3)
    · intro hc2
      try simp only [decide_eq_true_eq, decide_eq_false_iff_not, Bool.not_eq_true', Bool.not_eq_false', Bool.not_eq_true, Bool.not_eq_false, Bool.and_eq_true, Bool.or_eq_true, Bool.and_eq_false_iff, Bool.or_eq_false_iff, Bool.not_not, ne_eq, Int.not_lt, Int.not_le, Decidable.not_not, beq_iff_eq, bne_iff_ne] at hc2
      exfalso; first | omega | contradiction | (simp at *; done)

set_option maxHeartbeats 2000000 in
theorem stepDe2 (N : Nat) (Z : List (Nat × Obj)) (cv : Int) (p : Option Addr) (c : Nat) (hp : ∀ q, p = some q → q.spot = none) : SpK Tryz.prog 31 #[.agg ⟨[.slice p 0 c, .slice none 0 0, .int .i64 0]⟩, .agg ⟨[.int .u8 2, .int .u64 cv, .int .u64 0]⟩] (Mem Z) [] (StepPost false N [] 2 cv 0 Z) := by
  refine f_enter (args := [.agg ⟨[.slice p 0 c, .slice none 0 0, .int .i64 0]⟩, .agg ⟨[.int .u8 2, .int .u64 cv, .int .u64 0]⟩]) Tryz.func31 rfl Tryz.ntmps31 rfl ?_
  intro w0 w a hpre hl hh
  simp only [slotsFrom, Nat.reduceAdd] at hl
  refine c_seq ?_
  refine c_region ?_
  refine wl (w_box hl hh rfl trivial rfl rfl ?_)
  clear hl hh a w; intro k2 a w hl hh
  refine wl (w_box hl hh rfl trivial rfl rfl ?_)
  clear hl hh a w; intro k3 a w hl hh
  refine wl (w_alloc hl hh rfl trivial zero39 rfl ?_)
  clear hl hh a w; intro k4 a w hl hh
  refine wl (w_alloc hl hh rfl trivial zero53 rfl ?_)
  clear hl hh a w; intro k5 a w hl hh
  refine w_nil ?_
  have hl2 := hl.add (t := 2) (hl.add (t := 3) (hl.add (t := 4) (hl.add (t := 5) (hl.nil) rfl) rfl) rfl) rfl; clear hl; have hl := hl2; clear hl2
  refine then_normal ?_
  refine c_seq ?_
  refine c_region ?_
  refine wl (wl_val hl rfl trivial (r_field hl rfl fld53_0) ?_)
  clear hl a; intro a hl
  refine wl (w_load hl hh rfl trivial one50 rfl (by repeat (first | exact find_head | apply find_tail)) (by first | rfl) ?_)
  clear hl a; intro a hl
  refine wl (wl_val hl rfl trivial (r_lenS hl rfl slc50) ?_)
  clear hl a; intro a hl
  refine wl (wl_val hl rfl trivial (r_assign hl rfl) ?_)
  clear hl a; intro a hl
  refine w_nil ?_
  have hl2 := hl.add (t := 2) (hl.add (t := 3) (hl.add (t := 4) (hl.add (t := 5) (hl.add (t := 6) (hl.nil) rfl) rfl) rfl) rfl) rfl; clear hl; have hl := hl2; clear hl2
  refine then_normal ?_
  refine c_seq ?_
  refine c_seq ?_
  refine c_region ?_
  refine wl (wl_val hl rfl trivial (r_field hl rfl fld60_0) ?_)
  clear hl a; intro a hl
  refine wl (w_load hl hh rfl trivial one35 rfl (by repeat (first | exact find_head | apply find_tail)) (by first | rfl) ?_)
  clear hl a; intro a hl
  refine w_nil ?_
  have hl2 := hl.add (t := 2) (hl.add (t := 3) (hl.add (t := 4) (hl.add (t := 5) (hl.add (t := 6) (hl.add (t := 15) (hl.nil) rfl) rfl) rfl) rfl) rfl) rfl; clear hl; have hl := hl2; clear hl2
  refine then_normal ?_
  refine wp_block ?_
  refine c_seq ?_
  refine c_region ?_
  refine wl (wl_val hl rfl trivial (r_eql hl rfl rfl) ?_)
  clear hl a; intro a hl
  refine wl (wl_val hl rfl trivial (r_assign hl rfl) ?_)
  clear hl a; intro a hl
  refine w_nil ?_
  have hl2 := hl.add (t := 2) (hl.add (t := 3) (hl.add (t := 4) (hl.add (t := 5) (hl.add (t := 6) (hl.add (t := 15) (hl.add (t := 16) (hl.nil) rfl) rfl) rfl) rfl) rfl) rfl) rfl; clear hl; have hl := hl2; clear hl2
  refine then_normal ?_
  refine c_cond hl rfl ?_ ?_
  · intro hc0
    try simp only [decide_eq_true_eq, decide_eq_false_iff_not, Bool.not_eq_true', Bool.not_eq_false', Bool.not_eq_true, Bool.not_eq_false, Bool.and_eq_true, Bool.or_eq_true, Bool.and_eq_false_iff, Bool.or_eq_false_iff, Bool.not_not, ne_eq, Int.not_lt, Int.not_le, Decidable.not_not, beq_iff_eq, bne_iff_ne] at hc0
    exfalso; first | omega | contradiction | (simp at *; done)
  · intro hc0
    try simp only [decide_eq_true_eq, decide_eq_false_iff_not, Bool.not_eq_true', Bool.not_eq_false', Bool.not_eq_true, Bool.not_eq_false, Bool.and_eq_true, Bool.or_eq_true, Bool.and_eq_false_iff, Bool.or_eq_false_iff, Bool.not_not, ne_eq, Int.not_lt, Int.not_le, Decidable.not_not, beq_iff_eq, bne_iff_ne] at hc0
    refine c_seq ?_
    refine c_region ?_
    refine wl (wl_val hl rfl trivial (r_eql hl rfl rfl) ?_)
    clear hl a; intro a hl
    refine wl (wl_val hl rfl trivial (r_assign hl rfl) ?_)
    clear hl a; intro a hl
    refine w_nil ?_
    have hl2 := hl.add (t := 2) (hl.add (t := 3) (hl.add (t := 4) (hl.add (t := 5) (hl.add (t := 6) (hl.add (t := 15) (hl.add (t := 31) (hl.nil) rfl) rfl) rfl) rfl) rfl) rfl) rfl; clear hl; have hl := hl2; clear hl2
    refine then_normal ?_
    refine c_cond hl rfl ?_ ?_
    · intro hc2
      try simp only [decide_eq_true_eq, decide_eq_false_iff_not, Bool.not_eq_true', Bool.not_eq_false', Bool.not_eq_true, Bool.not_eq_false, Bool.and_eq_true, Bool.or_eq_true, Bool.and_eq_false_iff, Bool.or_eq_false_iff, Bool.not_not, ne_eq, Int.not_lt, Int.not_le, Decidable.not_not, beq_iff_eq, bne_iff_ne] at hc2
      exfalso; first | omega | contradiction | (simp at *; done)
    · intro hc2
      try simp only [decide_eq_true_eq, decide_eq_false_iff_not, Bool.not_eq_true', Bool.not_eq_false', Bool.not_eq_true, Bool.not_eq_false, Bool.and_eq_true, Bool.or_eq_true, Bool.and_eq_false_iff, Bool.or_eq_false_iff, Bool.not_not, ne_eq, Int.not_lt, Int.not_le, Decidable.not_not, beq_iff_eq, bne_iff_ne] at hc2
      refine c_seq ?_
      refine c_region ?_
      refine wl (wl_val hl rfl trivial (r_eql hl rfl rfl) ?_)
      clear hl a; intro a hl
      refine wl (wl_val hl rfl trivial (r_assign hl rfl) ?_)
      clear hl a; intro a hl
      refine w_nil ?_
      have hl2 := hl.add (t := 2) (hl.add (t := 3) (hl.add (t := 4) (hl.add (t := 5) (hl.add (t := 6) (hl.add (t := 15) (hl.add (t := 48) (hl.nil) rfl) rfl) rfl) rfl) rfl) rfl) rfl; clear hl; have hl := hl2; clear hl2
      refine then_normal ?_
      refine c_cond hl rfl ?_ ?_
      · intro hc4
        try simp only [decide_eq_true_eq, decide_eq_false_iff_not, Bool.not_eq_true', Bool.not_eq_false', Bool.not_eq_true, Bool.not_eq_false, Bool.and_eq_true, Bool.or_eq_true, Bool.and_eq_false_iff, Bool.or_eq_false_iff, Bool.not_not, ne_eq, Int.not_lt, Int.not_le, Decidable.not_not, beq_iff_eq, bne_iff_ne] at hc4
        refine c_seq ?_
        refine c_seq ?_
        refine c_region ?_
        refine wl (wl_val hl rfl trivial (r_move hl rfl) ?_)
        clear hl a; intro a hl
        refine wl (wl_val hl rfl trivial (r_eql hl rfl rfl) ?_)
        clear hl a; intro a hl
        refine w_nil ?_
        have hl2 := hl.add (t := 2) (hl.add (t := 4) (hl.add (t := 5) (hl.add (t := 51) (hl.nil) rfl) rfl) rfl) rfl; clear hl; have hl := hl2; clear hl2
        refine then_normal ?_
        refine c_cond hl rfl ?_ ?_
        · intro hc5
          try simp only [decide_eq_true_eq, decide_eq_false_iff_not, Bool.not_eq_true', Bool.not_eq_false', Bool.not_eq_true, Bool.not_eq_false, Bool.and_eq_true, Bool.or_eq_true, Bool.and_eq_false_iff, Bool.or_eq_false_iff, Bool.not_not, ne_eq, Int.not_lt, Int.not_le, Decidable.not_not, beq_iff_eq, bne_iff_ne] at hc5
          refine c_seq ?_
          refine c_draw [(k2, C [.slice p 0 c, .slice none 0 0, .int .i64 0] 53)] [3] mixed hh ?_
          clear hh w; intro w hh
          have hM : Mem [(k2, C [.slice p 0 c, .slice none 0 0, .int .i64 0] 53)] w := (by (repeat (first | exact Mem.nil | refine Mem.cons hh.mem (by (repeat (first | exact find_head | apply find_tail)); done) ?_ | refine Mem.consR hh (by assumption) (by simp) ?_ | fail)); done)
          refine d_take (i := 0) hl rfl (by kernel_rfl) (by kernel_rfl) (by kernel_rfl) (by kernel_rfl) (by kernel_rfl) rfl trivial (fun _ _ _ h => h) hM (fun w hC => r_build hl rfl zero39 bld39 (by simp only [fillL, setL, List.getElem?_cons_zero, List.getElem?_cons_succ, Value.cells, List.take_zero, List.take_succ_cons, List.take_nil, List.drop_zero, List.drop_succ_cons, List.drop_nil, List.length_cons, List.length_nil, List.cons_append, List.nil_append, List.append_nil, Nat.zero_add, Nat.add_zero, Nat.reduceAdd, Nat.reduceBEq, Nat.reduceEqDiff, Nat.ble, BEq.rfl, Bool.and_true, Bool.and_self, cond_true, beq_self_eq_true]; rfl)) rfl ?_
          clear hl a; intro a hl
          refine d_take (i := 1) hl rfl (by kernel_rfl) (by kernel_rfl) (by kernel_rfl) (by kernel_rfl) (by kernel_rfl) rfl trivial (fun _ _ _ h => h) hM (fun w hC => r_loadCA hl rfl agg53 hC (by repeat (first | exact find_head | apply find_tail)) (by first | (simp only [List.getElem?_cons_zero, List.getElem?_cons_succ, Value.cells, List.take_zero, List.take_succ_cons, List.take_nil, List.drop_zero, List.drop_succ_cons, List.drop_nil, List.length_cons, List.length_nil, List.cons_append, List.nil_append, List.append_nil, Nat.zero_add, Nat.add_zero, Nat.reduceAdd, Nat.reduceBEq, Nat.reduceEqDiff, Nat.ble, BEq.rfl, Bool.and_true, Bool.and_self, cond_true, beq_self_eq_true]; rfl)) (by first | rfl | (simp; done))) rfl ?_
          clear hl a; intro a hl
          refine d_one (i := 2) (by kernel_rfl) rfl ?_
          try clear hM
          refine id (w_storeA hl hh trivial agg39 rfl rfl (by repeat (first | exact find_head | apply find_tail)) (by first | rfl | (simp; done)) (by first | (simp; done) | (simp; omega)) (by first | rfl | (simp; done) | exact one_dq hR3.one | exact one_dq hR2.one | exact one_bf hR3.one | exact one_bf hR2.one) (by first | (simp only [setL, List.getElem?_cons_zero, List.getElem?_cons_succ, Value.cells, List.take_zero, List.take_succ_cons, List.take_nil, List.drop_zero, List.drop_succ_cons, List.drop_nil, List.length_cons, List.length_nil, List.cons_append, List.nil_append, List.append_nil, Nat.zero_add, Nat.add_zero, Nat.reduceAdd, Nat.reduceBEq, Nat.reduceEqDiff, Nat.ble, BEq.rfl, Bool.and_true, Bool.and_self, cond_true, beq_self_eq_true]; rfl)) ?_)
          clear hh w; intro w hh
          have hM : Mem [(k2, C [.slice p 0 c, .slice none 0 0, .int .i64 0] 53)] w := (by (repeat (first | exact Mem.nil | refine Mem.cons hh.mem (by (repeat (first | exact find_head | apply find_tail)); done) ?_ | refine Mem.consR hh (by assumption) (by simp) ?_ | fail)); done)
          refine d_step (fun _ => hM) ?_
          refine d_one (i := 3) (by kernel_rfl) rfl ?_
          try clear hM
          refine id (w_storeA hl hh trivial agg53 rfl rfl (by repeat (first | exact find_head | apply find_tail)) (by first | rfl | (simp; done)) (by first | (simp; done) | (simp; omega)) (by first | rfl | (simp; done) | exact one_dq hR3.one | exact one_dq hR2.one | exact one_bf hR3.one | exact one_bf hR2.one) (by first | (simp only [setL, List.getElem?_cons_zero, List.getElem?_cons_succ, Value.cells, List.take_zero, List.take_succ_cons, List.take_nil, List.drop_zero, List.drop_succ_cons, List.drop_nil, List.length_cons, List.length_nil, List.cons_append, List.nil_append, List.append_nil, Nat.zero_add, Nat.add_zero, Nat.reduceAdd, Nat.reduceBEq, Nat.reduceEqDiff, Nat.ble, BEq.rfl, Bool.and_true, Bool.and_self, cond_true, beq_self_eq_true]; rfl)) ?_)
          clear hh w; intro w hh
          refine d_step (fun h => absurd h (by decide)) ?_
          refine d_done (by kernel_rfl) ?_
          try clear hM
          have hl2 := hl.add (t := 4) (hl.add (t := 5) (hl.nil) rfl) rfl; clear hl; have hl := hl2; clear hl2
          refine then_normal ?_
          refine wp_ret ?_
          refine then_ret ?_
          refine blk_ret ?_
          refine then_ret ?_
          refine f_retCC (F' := []) hl hh rfl rfl rfl agg39 agg53 (by repeat (first | exact find_head | apply find_tail)) (by repeat (first | exact find_head | apply find_tail)) (by first | rfl | (simp; done)) (by first | rfl | (simp; done)) (by repeat (first | exact keeps_nil | apply keeps_cons (by repeat (first | exact find_head | apply find_tail)) (by first  | rfl) | exact keeps_self | exact keeps_left | exact keeps_right | exact keeps_swap | apply keeps_mv)) ?_
          exact stp (st_popE (by omega)) (StR.same (.dq N [] Z _ (fun x h => by cases h) ⟨by simp, fun x h => by cases h⟩ (.inl ⟨rfl, flU0, p, c, rfl, hp⟩)))
        · intro hc5
          try simp only [decide_eq_true_eq, decide_eq_false_iff_not, Bool.not_eq_true', Bool.not_eq_false', Bool.not_eq_true, Bool.not_eq_false, Bool.and_eq_true, Bool.or_eq_true, Bool.and_eq_false_iff, Bool.or_eq_false_iff, Bool.not_not, ne_eq, Int.not_lt, Int.not_le, Decidable.not_not, beq_iff_eq, bne_iff_ne] at hc5
          exfalso; first | omega | contradiction | (simp at *; done)
      · intro hc4
        try simp only [decide_eq_true_eq, decide_eq_false_iff_not, Bool.not_eq_true', Bool.not_eq_false', Bool.not_eq_true, Bool.not_eq_false, Bool.and_eq_true, Bool.or_eq_true, Bool.and_eq_false_iff, Bool.or_eq_false_iff, Bool.not_not, ne_eq, Int.not_lt, Int.not_le, Decidable.not_not, beq_iff_eq, bne_iff_ne] at hc4
        exfalso; first | omega | contradiction | (simp at *; done)

set_option maxHeartbeats 2000000 in
theorem stepDe3 (N : Nat) (Z : List (Nat × Obj)) (cv : Int) (p : Option Addr) (c : Nat) (hp : ∀ q, p = some q → q.spot = none) : SpK Tryz.prog 31 #[.agg ⟨[.slice p 0 c, .slice none 0 0, .int .i64 0]⟩, .agg ⟨[.int .u8 3, .int .u64 cv, .int .u64 0]⟩] (Mem Z) [] (StepPost false N [] 3 cv 0 Z) := by
  refine f_enter (args := [.agg ⟨[.slice p 0 c, .slice none 0 0, .int .i64 0]⟩, .agg ⟨[.int .u8 3, .int .u64 cv, .int .u64 0]⟩]) Tryz.func31 rfl Tryz.ntmps31 rfl ?_
  intro w0 w a hpre hl hh
  simp only [slotsFrom, Nat.reduceAdd] at hl
  refine c_seq ?_
  refine c_region ?_
  refine wl (w_box hl hh rfl trivial rfl rfl ?_)
  clear hl hh a w; intro k2 a w hl hh
  refine wl (w_box hl hh rfl trivial rfl rfl ?_)
  clear hl hh a w; intro k3 a w hl hh
  refine wl (w_alloc hl hh rfl trivial zero39 rfl ?_)
  clear hl hh a w; intro k4 a w hl hh
  refine wl (w_alloc hl hh rfl trivial zero53 rfl ?_)
  clear hl hh a w; intro k5 a w hl hh
  refine w_nil ?_
  have hl2 := hl.add (t := 2) (hl.add (t := 3) (hl.add (t := 4) (hl.add (t := 5) (hl.nil) rfl) rfl) rfl) rfl; clear hl; have hl := hl2; clear hl2
  refine then_normal ?_
  refine c_seq ?_
  refine c_region ?_
  refine wl (wl_val hl rfl trivial (r_field hl rfl fld53_0) ?_)
  clear hl a; intro a hl
  refine wl (w_load hl hh rfl trivial one50 rfl (by repeat (first | exact find_head | apply find_tail)) (by first | rfl) ?_)
  clear hl a; intro a hl
  refine wl (wl_val hl rfl trivial (r_lenS hl rfl slc50) ?_)
  clear hl a; intro a hl
  refine wl (wl_val hl rfl trivial (r_assign hl rfl) ?_)
  clear hl a; intro a hl
  refine w_nil ?_
  have hl2 := hl.add (t := 2) (hl.add (t := 3) (hl.add (t := 4) (hl.add (t := 5) (hl.add (t := 6) (hl.nil) rfl) rfl) rfl) rfl) rfl; clear hl; have hl := hl2; clear hl2
  refine then_normal ?_
  refine c_seq ?_
  refine c_seq ?_
  refine c_region ?_
  refine wl (wl_val hl rfl trivial (r_field hl rfl fld60_0) ?_)
  clear hl a; intro a hl
  refine wl (w_load hl hh rfl trivial one35 rfl (by repeat (first | exact find_head | apply find_tail)) (by first | rfl) ?_)
  clear hl a; intro a hl
  refine w_nil ?_
  have hl2 := hl.add (t := 2) (hl.add (t := 3) (hl.add (t := 4) (hl.add (t := 5) (hl.add (t := 6) (hl.add (t := 15) (hl.nil) rfl) rfl) rfl) rfl) rfl) rfl; clear hl; have hl := hl2; clear hl2
  refine then_normal ?_
  refine wp_block ?_
  refine c_seq ?_
  refine c_region ?_
  refine wl (wl_val hl rfl trivial (r_eql hl rfl rfl) ?_)
  clear hl a; intro a hl
  refine wl (wl_val hl rfl trivial (r_assign hl rfl) ?_)
  clear hl a; intro a hl
  refine w_nil ?_
  have hl2 := hl.add (t := 2) (hl.add (t := 3) (hl.add (t := 4) (hl.add (t := 5) (hl.add (t := 6) (hl.add (t := 15) (hl.add (t := 16) (hl.nil) rfl) rfl) rfl) rfl) rfl) rfl) rfl; clear hl; have hl := hl2; clear hl2
  refine then_normal ?_
  refine c_cond hl rfl ?_ ?_
  · intro hc0
    try simp only [decide_eq_true_eq, decide_eq_false_iff_not, Bool.not_eq_true', Bool.not_eq_false', Bool.not_eq_true, Bool.not_eq_false, Bool.and_eq_true, Bool.or_eq_true, Bool.and_eq_false_iff, Bool.or_eq_false_iff, Bool.not_not, ne_eq, Int.not_lt, Int.not_le, Decidable.not_not, beq_iff_eq, bne_iff_ne] at hc0
    exfalso; first | omega | contradiction | (simp at *; done)
  · intro hc0
    try simp only [decide_eq_true_eq, decide_eq_false_iff_not, Bool.not_eq_true', Bool.not_eq_false', Bool.not_eq_true, Bool.not_eq_false, Bool.and_eq_true, Bool.or_eq_true, Bool.and_eq_false_iff, Bool.or_eq_false_iff, Bool.not_not, ne_eq, Int.not_lt, Int.not_le, Decidable.not_not, beq_iff_eq, bne_iff_ne] at hc0
    refine c_seq ?_
    refine c_region ?_
    refine wl (wl_val hl rfl trivial (r_eql hl rfl rfl) ?_)
    clear hl a; intro a hl
    refine wl (wl_val hl rfl trivial (r_assign hl rfl) ?_)
    clear hl a; intro a hl
    refine w_nil ?_
    have hl2 := hl.add (t := 2) (hl.add (t := 3) (hl.add (t := 4) (hl.add (t := 5) (hl.add (t := 6) (hl.add (t := 15) (hl.add (t := 31) (hl.nil) rfl) rfl) rfl) rfl) rfl) rfl) rfl; clear hl; have hl := hl2; clear hl2
    refine then_normal ?_
    refine c_cond hl rfl ?_ ?_
    · intro hc2
      try simp only [decide_eq_true_eq, decide_eq_false_iff_not, Bool.not_eq_true', Bool.not_eq_false', Bool.not_eq_true, Bool.not_eq_false, Bool.and_eq_true, Bool.or_eq_true, Bool.and_eq_false_iff, Bool.or_eq_false_iff, Bool.not_not, ne_eq, Int.not_lt, Int.not_le, Decidable.not_not, beq_iff_eq, bne_iff_ne] at hc2
      exfalso; first | omega | contradiction | (simp at *; done)
    · intro hc2
      try simp only [decide_eq_true_eq, decide_eq_false_iff_not, Bool.not_eq_true', Bool.not_eq_false', Bool.not_eq_true, Bool.not_eq_false, Bool.and_eq_true, Bool.or_eq_true, Bool.and_eq_false_iff, Bool.or_eq_false_iff, Bool.not_not, ne_eq, Int.not_lt, Int.not_le, Decidable.not_not, beq_iff_eq, bne_iff_ne] at hc2
      refine c_seq ?_
      refine c_region ?_
      refine wl (wl_val hl rfl trivial (r_eql hl rfl rfl) ?_)
      clear hl a; intro a hl
      refine wl (wl_val hl rfl trivial (r_assign hl rfl) ?_)
      clear hl a; intro a hl
      refine w_nil ?_
      have hl2 := hl.add (t := 2) (hl.add (t := 3) (hl.add (t := 4) (hl.add (t := 5) (hl.add (t := 6) (hl.add (t := 15) (hl.add (t := 48) (hl.nil) rfl) rfl) rfl) rfl) rfl) rfl) rfl; clear hl; have hl := hl2; clear hl2
      refine then_normal ?_
      refine c_cond hl rfl ?_ ?_
      · intro hc4
        try simp only [decide_eq_true_eq, decide_eq_false_iff_not, Bool.not_eq_true', Bool.not_eq_false', Bool.not_eq_true, Bool.not_eq_false, Bool.and_eq_true, Bool.or_eq_true, Bool.and_eq_false_iff, Bool.or_eq_false_iff, Bool.not_not, ne_eq, Int.not_lt, Int.not_le, Decidable.not_not, beq_iff_eq, bne_iff_ne] at hc4
        exfalso; first | omega | contradiction | (simp at *; done)
      · intro hc4
        try simp only [decide_eq_true_eq, decide_eq_false_iff_not, Bool.not_eq_true', Bool.not_eq_false', Bool.not_eq_true, Bool.not_eq_false, Bool.and_eq_true, Bool.or_eq_true, Bool.and_eq_false_iff, Bool.or_eq_false_iff, Bool.not_not, ne_eq, Int.not_lt, Int.not_le, Decidable.not_not, beq_iff_eq, bne_iff_ne] at hc4
        refine c_seq ?_
        refine c_region ?_
        refine wl (wl_val hl rfl trivial (r_eql hl rfl rfl) ?_)
        clear hl a; intro a hl
        refine wl (wl_val hl rfl trivial (r_assign hl rfl) ?_)
        clear hl a; intro a hl
        refine w_nil ?_
        have hl2 := hl.add (t := 2) (hl.add (t := 3) (hl.add (t := 4) (hl.add (t := 5) (hl.add (t := 6) (hl.add (t := 15) (hl.add (t := 65) (hl.nil) rfl) rfl) rfl) rfl) rfl) rfl) rfl; clear hl; have hl := hl2; clear hl2
        refine then_normal ?_
        refine c_cond hl rfl ?_ ?_
        · intro hc6
          try simp only [decide_eq_true_eq, decide_eq_false_iff_not, Bool.not_eq_true', Bool.not_eq_false', Bool.not_eq_true, Bool.not_eq_false, Bool.and_eq_true, Bool.or_eq_true, Bool.and_eq_false_iff, Bool.or_eq_false_iff, Bool.not_not, ne_eq, Int.not_lt, Int.not_le, Decidable.not_not, beq_iff_eq, bne_iff_ne] at hc6
          refine c_seq ?_
          refine c_seq ?_
          refine c_region ?_
          refine wl (wl_val hl rfl trivial (r_move hl rfl) ?_)
          clear hl a; intro a hl
          refine wl (wl_val hl rfl trivial (r_eql hl rfl rfl) ?_)
          clear hl a; intro a hl
          refine w_nil ?_
          have hl2 := hl.add (t := 2) (hl.add (t := 4) (hl.add (t := 5) (hl.add (t := 6) (hl.add (t := 68) (hl.nil) rfl) rfl) rfl) rfl) rfl; clear hl; have hl := hl2; clear hl2
          refine then_normal ?_
          refine c_cond hl rfl ?_ ?_
          · intro hc7
            try simp only [decide_eq_true_eq, decide_eq_false_iff_not, Bool.not_eq_true', Bool.not_eq_false', Bool.not_eq_true, Bool.not_eq_false, Bool.and_eq_true, Bool.or_eq_true, Bool.and_eq_false_iff, Bool.or_eq_false_iff, Bool.not_not, ne_eq, Int.not_lt, Int.not_le, Decidable.not_not, beq_iff_eq, bne_iff_ne] at hc7
            refine c_seq ?_
            refine c_draw [(k2, C [.slice p 0 c, .slice none 0 0, .int .i64 0] 53)] [3] mixed hh ?_
            clear hh w; intro w hh
            have hM : Mem [(k2, C [.slice p 0 c, .slice none 0 0, .int .i64 0] 53)] w := (by (repeat (first | exact Mem.nil | refine Mem.cons hh.mem (by (repeat (first | exact find_head | apply find_tail)); done) ?_ | refine Mem.consR hh (by assumption) (by simp) ?_ | fail)); done)
            refine d_take (i := 0) hl rfl (by kernel_rfl) (by kernel_rfl) (by kernel_rfl) (by kernel_rfl) (by kernel_rfl) rfl trivial (fun _ _ _ h => h) hM (fun w hC => r_build hl rfl zero39 bld39 (by simp only [fillL, setL, List.getElem?_cons_zero, List.getElem?_cons_succ, Value.cells, List.take_zero, List.take_succ_cons, List.take_nil, List.drop_zero, List.drop_succ_cons, List.drop_nil, List.length_cons, List.length_nil, List.cons_append, List.nil_append, List.append_nil, Nat.zero_add, Nat.add_zero, Nat.reduceAdd, Nat.reduceBEq, Nat.reduceEqDiff, Nat.ble, BEq.rfl, Bool.and_true, Bool.and_self, cond_true, beq_self_eq_true]; rfl)) rfl ?_
            clear hl a; intro a hl
            refine d_take (i := 1) hl rfl (by kernel_rfl) (by kernel_rfl) (by kernel_rfl) (by kernel_rfl) (by kernel_rfl) rfl trivial (fun _ _ _ h => h) hM (fun w hC => r_loadCA hl rfl agg53 hC (by repeat (first | exact find_head | apply find_tail)) (by first | (simp only [List.getElem?_cons_zero, List.getElem?_cons_succ, Value.cells, List.take_zero, List.take_succ_cons, List.take_nil, List.drop_zero, List.drop_succ_cons, List.drop_nil, List.length_cons, List.length_nil, List.cons_append, List.nil_append, List.append_nil, Nat.zero_add, Nat.add_zero, Nat.reduceAdd, Nat.reduceBEq, Nat.reduceEqDiff, Nat.ble, BEq.rfl, Bool.and_true, Bool.and_self, cond_true, beq_self_eq_true]; rfl)) (by first | rfl | (simp; done))) rfl ?_
            clear hl a; intro a hl
            refine d_one (i := 2) (by kernel_rfl) rfl ?_
            try clear hM
            refine id (w_storeA hl hh trivial agg39 rfl rfl (by repeat (first | exact find_head | apply find_tail)) (by first | rfl | (simp; done)) (by first | (simp; done) | (simp; omega)) (by first | rfl | (simp; done) | exact one_dq hR3.one | exact one_dq hR2.one | exact one_bf hR3.one | exact one_bf hR2.one) (by first | (simp only [setL, List.getElem?_cons_zero, List.getElem?_cons_succ, Value.cells, List.take_zero, List.take_succ_cons, List.take_nil, List.drop_zero, List.drop_succ_cons, List.drop_nil, List.length_cons, List.length_nil, List.cons_append, List.nil_append, List.append_nil, Nat.zero_add, Nat.add_zero, Nat.reduceAdd, Nat.reduceBEq, Nat.reduceEqDiff, Nat.ble, BEq.rfl, Bool.and_true, Bool.and_self, cond_true, beq_self_eq_true]; rfl)) ?_)
            clear hh w; intro w hh
            have hM : Mem [(k2, C [.slice p 0 c, .slice none 0 0, .int .i64 0] 53)] w := (by (repeat (first | exact Mem.nil | refine Mem.cons hh.mem (by (repeat (first | exact find_head | apply find_tail)); done) ?_ | refine Mem.consR hh (by assumption) (by simp) ?_ | fail)); done)
            refine d_step (fun _ => hM) ?_
            refine d_one (i := 3) (by kernel_rfl) rfl ?_
            try clear hM
            refine id (w_storeA hl hh trivial agg53 rfl rfl (by repeat (first | exact find_head | apply find_tail)) (by first | rfl | (simp; done)) (by first | (simp; done) | (simp; omega)) (by first | rfl | (simp; done) | exact one_dq hR3.one | exact one_dq hR2.one | exact one_bf hR3.one | exact one_bf hR2.one) (by first | (simp only [setL, List.getElem?_cons_zero, List.getElem?_cons_succ, Value.cells, List.take_zero, List.take_succ_cons, List.take_nil, List.drop_zero, List.drop_succ_cons, List.drop_nil, List.length_cons, List.length_nil, List.cons_append, List.nil_append, List.append_nil, Nat.zero_add, Nat.add_zero, Nat.reduceAdd, Nat.reduceBEq, Nat.reduceEqDiff, Nat.ble, BEq.rfl, Bool.and_true, Bool.and_self, cond_true, beq_self_eq_true]; rfl)) ?_)
            clear hh w; intro w hh
            refine d_step (fun h => absurd h (by decide)) ?_
            refine d_done (by kernel_rfl) ?_
            try clear hM
            have hl2 := hl.add (t := 4) (hl.add (t := 5) (hl.nil) rfl) rfl; clear hl; have hl := hl2; clear hl2
            refine then_normal ?_
            refine wp_ret ?_
            refine then_ret ?_
            refine blk_ret ?_
            refine then_ret ?_
            refine f_retCC (F' := []) hl hh rfl rfl rfl agg39 agg53 (by repeat (first | exact find_head | apply find_tail)) (by repeat (first | exact find_head | apply find_tail)) (by first | rfl | (simp; done)) (by first | rfl | (simp; done)) (by repeat (first | exact keeps_nil | apply keeps_cons (by repeat (first | exact find_head | apply find_tail)) (by first  | rfl) | exact keeps_self | exact keeps_left | exact keeps_right | exact keeps_swap | apply keeps_mv)) ?_
            exact stp (st_popE (by omega)) (StR.same (.dq N [] Z _ (fun x h => by cases h) ⟨by simp, fun x h => by cases h⟩ (.inl ⟨rfl, flU0, p, c, rfl, hp⟩)))
          · intro hc7
            try simp only [decide_eq_true_eq, decide_eq_false_iff_not, Bool.not_eq_true', Bool.not_eq_false', Bool.not_eq_true, Bool.not_eq_false, Bool.and_eq_true, Bool.or_eq_true, Bool.and_eq_false_iff, Bool.or_eq_false_iff, Bool.not_not, ne_eq, Int.not_lt, Int.not_le, Decidable.not_not, beq_iff_eq, bne_iff_ne] at hc7
            exfalso; first | omega | contradiction | (simp at *; done)
        · intro hc6
          try simp only [decide_eq_true_eq, decide_eq_false_iff_not, Bool.not_eq_true', Bool.not_eq_false', Bool.not_eq_true, Bool.not_eq_false, Bool.and_eq_true, Bool.or_eq_true, Bool.and_eq_false_iff, Bool.or_eq_false_iff, Bool.not_not, ne_eq, Int.not_lt, Int.not_le, Decidable.not_not, beq_iff_eq, bne_iff_ne] at hc6
          exfalso; first | omega | contradiction | (simp at *; done)

set_option maxHeartbeats 2000000 in
theorem stepDp2 (N : Nat) (A : List (Int × Int)) (x : Int × Int) (Z : List (Nat × Obj)) (cv : Int) (hz : ∀ y ∈ x :: A, y.1 = 0) (ho : AOk (x :: A)) (b9 o9 c9 : Nat) (l9 : List Value) (T9 : TypeId) (hZ : (b9, C l9 T9) ∈ Z) (h5 : (l9.drop o9).take (fl u64c (x :: A)).length = fl u64c (x :: A)) (hc9 : A.length + 1 ≤ c9) : SpK Tryz.prog 31 #[.agg ⟨[.slice (some ⟨b9, o9, none⟩) (A.length + 1) c9, .slice none 0 0, .int .i64 0]⟩, .agg ⟨[.int .u8 2, .int .u64 cv, .int .u64 0]⟩] (Mem Z) [] (StepPost false N (x :: A) 2 cv 0 Z) := by
  refine f_enter (args := [.agg ⟨[.slice (some ⟨b9, o9, none⟩) (A.length + 1) c9, .slice none 0 0, .int .i64 0]⟩, .agg ⟨[.int .u8 2, .int .u64 cv, .int .u64 0]⟩]) Tryz.func31 rfl Tryz.ntmps31 rfl ?_
  intro w0 w a hpre hl hh
  have hlen := ho.len
  rw [List.length_cons] at hlen
  have hm : w0.heap[b9]? = some (C l9 T9) := hpre _ _ hZ
  have hq1 := u64_at h5 (i := 0) (x := x) rfl
  have hx0 : x.1 = 0 := hz x (List.mem_cons_self ..)
  simp only [slotsFrom, Nat.reduceAdd] at hl
  refine c_seq ?_
  refine c_region ?_
  refine wl (w_box hl hh rfl trivial rfl rfl ?_)
  clear hl hh a w; intro k2 a w hl hh
  refine wl (w_box hl hh rfl trivial rfl rfl ?_)
  clear hl hh a w; intro k3 a w hl hh
  refine wl (w_alloc hl hh rfl trivial zero39 rfl ?_)
  clear hl hh a w; intro k4 a w hl hh
  refine wl (w_alloc hl hh rfl trivial zero53 rfl ?_)
  clear hl hh a w; intro k5 a w hl hh
  refine w_nil ?_
  have hl2 := hl.add (t := 2) (hl.add (t := 3) (hl.add (t := 4) (hl.add (t := 5) (hl.nil) rfl) rfl) rfl) rfl; clear hl; have hl := hl2; clear hl2
  refine then_normal ?_
  refine c_seq ?_
  refine c_region ?_
  refine wl (wl_val hl rfl trivial (r_field hl rfl fld53_0) ?_)
  clear hl a; intro a hl
  first | refine wl (w_load hl hh rfl trivial one50 rfl (by repeat (first | exact find_head | apply find_tail)) (by first | rfl) ?_) | refine wl (w_loadR hl hh rfl trivial one50 rfl hm (by simp) hq1 ?_)
  clear hl a; intro a hl
  refine wl (wl_val hl rfl trivial (r_lenS hl rfl slc50) ?_)
  clear hl a; intro a hl
  refine wl (wl_val hl rfl trivial (r_assign hl rfl) ?_)
  clear hl a; intro a hl
  refine w_nil ?_
  have hl2 := hl.add (t := 2) (hl.add (t := 3) (hl.add (t := 4) (hl.add (t := 5) (hl.add (t := 6) (hl.nil) rfl) rfl) rfl) rfl) rfl; clear hl; have hl := hl2; clear hl2
  refine then_normal ?_
  refine c_seq ?_
  refine c_seq ?_
  refine c_region ?_
  refine wl (wl_val hl rfl trivial (r_field hl rfl fld60_0) ?_)
  clear hl a; intro a hl
  first | refine wl (w_load hl hh rfl trivial one35 rfl (by repeat (first | exact find_head | apply find_tail)) (by first | rfl) ?_) | refine wl (w_loadR hl hh rfl trivial one35 rfl hm (by simp) hq1 ?_)
  clear hl a; intro a hl
  refine w_nil ?_
  have hl2 := hl.add (t := 2) (hl.add (t := 3) (hl.add (t := 4) (hl.add (t := 5) (hl.add (t := 6) (hl.add (t := 15) (hl.nil) rfl) rfl) rfl) rfl) rfl) rfl; clear hl; have hl := hl2; clear hl2
  refine then_normal ?_
  refine wp_block ?_
  refine c_seq ?_
  refine c_region ?_
  refine wl (wl_val hl rfl trivial (r_eql hl rfl rfl) ?_)
  clear hl a; intro a hl
  refine wl (wl_val hl rfl trivial (r_assign hl rfl) ?_)
  clear hl a; intro a hl
  refine w_nil ?_
  have hl2 := hl.add (t := 2) (hl.add (t := 3) (hl.add (t := 4) (hl.add (t := 5) (hl.add (t := 6) (hl.add (t := 15) (hl.add (t := 16) (hl.nil) rfl) rfl) rfl) rfl) rfl) rfl) rfl; clear hl; have hl := hl2; clear hl2
  refine then_normal ?_
  refine c_cond hl rfl ?_ ?_
  · intro hc0
    try simp only [decide_eq_true_eq, decide_eq_false_iff_not, Bool.not_eq_true', Bool.not_eq_false', Bool.not_eq_true, Bool.not_eq_false, Bool.and_eq_true, Bool.or_eq_true, Bool.and_eq_false_iff, Bool.or_eq_false_iff, Bool.not_not, ne_eq, Int.not_lt, Int.not_le, Decidable.not_not, beq_iff_eq, bne_iff_ne] at hc0
    exfalso; first | omega | contradiction | (simp at *; done)
  · intro hc0
    try simp only [decide_eq_true_eq, decide_eq_false_iff_not, Bool.not_eq_true', Bool.not_eq_false', Bool.not_eq_true, Bool.not_eq_false, Bool.and_eq_true, Bool.or_eq_true, Bool.and_eq_false_iff, Bool.or_eq_false_iff, Bool.not_not, ne_eq, Int.not_lt, Int.not_le, Decidable.not_not, beq_iff_eq, bne_iff_ne] at hc0
    refine c_seq ?_
    refine c_region ?_
    refine wl (wl_val hl rfl trivial (r_eql hl rfl rfl) ?_)
    clear hl a; intro a hl
    refine wl (wl_val hl rfl trivial (r_assign hl rfl) ?_)
    clear hl a; intro a hl
    refine w_nil ?_
    have hl2 := hl.add (t := 2) (hl.add (t := 3) (hl.add (t := 4) (hl.add (t := 5) (hl.add (t := 6) (hl.add (t := 15) (hl.add (t := 31) (hl.nil) rfl) rfl) rfl) rfl) rfl) rfl) rfl; clear hl; have hl := hl2; clear hl2
    refine then_normal ?_
    refine c_cond hl rfl ?_ ?_
    · intro hc2
      try simp only [decide_eq_true_eq, decide_eq_false_iff_not, Bool.not_eq_true', Bool.not_eq_false', Bool.not_eq_true, Bool.not_eq_false, Bool.and_eq_true, Bool.or_eq_true, Bool.and_eq_false_iff, Bool.or_eq_false_iff, Bool.not_not, ne_eq, Int.not_lt, Int.not_le, Decidable.not_not, beq_iff_eq, bne_iff_ne] at hc2
      exfalso; first | omega | contradiction | (simp at *; done)
    · intro hc2
      try simp only [decide_eq_true_eq, decide_eq_false_iff_not, Bool.not_eq_true', Bool.not_eq_false', Bool.not_eq_true, Bool.not_eq_false, Bool.and_eq_true, Bool.or_eq_true, Bool.and_eq_false_iff, Bool.or_eq_false_iff, Bool.not_not, ne_eq, Int.not_lt, Int.not_le, Decidable.not_not, beq_iff_eq, bne_iff_ne] at hc2
      refine c_seq ?_
      refine c_region ?_
      refine wl (wl_val hl rfl trivial (r_eql hl rfl rfl) ?_)
      clear hl a; intro a hl
      refine wl (wl_val hl rfl trivial (r_assign hl rfl) ?_)
      clear hl a; intro a hl
      refine w_nil ?_
      have hl2 := hl.add (t := 2) (hl.add (t := 3) (hl.add (t := 4) (hl.add (t := 5) (hl.add (t := 6) (hl.add (t := 15) (hl.add (t := 48) (hl.nil) rfl) rfl) rfl) rfl) rfl) rfl) rfl; clear hl; have hl := hl2; clear hl2
      refine then_normal ?_
      refine c_cond hl rfl ?_ ?_
      · intro hc4
        try simp only [decide_eq_true_eq, decide_eq_false_iff_not, Bool.not_eq_true', Bool.not_eq_false', Bool.not_eq_true, Bool.not_eq_false, Bool.and_eq_true, Bool.or_eq_true, Bool.and_eq_false_iff, Bool.or_eq_false_iff, Bool.not_not, ne_eq, Int.not_lt, Int.not_le, Decidable.not_not, beq_iff_eq, bne_iff_ne] at hc4
        refine c_seq ?_
        refine c_seq ?_
        refine c_region ?_
        refine wl (wl_val hl rfl trivial (r_move hl rfl) ?_)
        clear hl a; intro a hl
        refine wl (wl_val hl rfl trivial (r_eql hl rfl rfl) ?_)
        clear hl a; intro a hl
        refine w_nil ?_
        have hl2 := hl.add (t := 2) (hl.add (t := 4) (hl.add (t := 5) (hl.add (t := 51) (hl.nil) rfl) rfl) rfl) rfl; clear hl; have hl := hl2; clear hl2
        refine then_normal ?_
        refine c_cond hl rfl ?_ ?_
        · intro hc5
          try simp only [decide_eq_true_eq, decide_eq_false_iff_not, Bool.not_eq_true', Bool.not_eq_false', Bool.not_eq_true, Bool.not_eq_false, Bool.and_eq_true, Bool.or_eq_true, Bool.and_eq_false_iff, Bool.or_eq_false_iff, Bool.not_not, ne_eq, Int.not_lt, Int.not_le, Decidable.not_not, beq_iff_eq, bne_iff_ne] at hc5
          exfalso; first | omega | contradiction | (simp at *; done)
        · intro hc5
          try simp only [decide_eq_true_eq, decide_eq_false_iff_not, Bool.not_eq_true', Bool.not_eq_false', Bool.not_eq_true, Bool.not_eq_false, Bool.and_eq_true, Bool.or_eq_true, Bool.and_eq_false_iff, Bool.or_eq_false_iff, Bool.not_not, ne_eq, Int.not_lt, Int.not_le, Decidable.not_not, beq_iff_eq, bne_iff_ne] at hc5
          refine wp_skip ?_
          refine then_normal ?_
          refine c_seq ?_
          refine c_region ?_
          refine wl (wl_val hl rfl trivial (r_field hl rfl fld53_0) ?_)
          clear hl a; intro a hl
          first | refine wl (w_load hl hh rfl trivial one50 rfl (by repeat (first | exact find_head | apply find_tail)) (by first | rfl) ?_) | refine wl (w_loadR hl hh rfl trivial one50 rfl hm (by simp) hq1 ?_)
          clear hl a; intro a hl
          refine wl (wl_val hl rfl trivial (r_indexS hl rfl rfl slc50 (by omega) (by omega) (by first | (simp only [Int.reduceToNat]; rfl) | exact toNat_add1 _ | exact toNat_add2 _ _ | exact toNat_emod _ _ | exact Int.toNat_natCast _ | rfl)) ?_)
          clear hl a; intro a hl
          first | refine wl (w_load hl hh rfl trivial one37 rfl (by repeat (first | exact find_head | apply find_tail)) (by first | rfl) ?_) | refine wl (w_loadR hl hh rfl trivial one37 rfl hm (by simp) hq1 ?_)
          clear hl a; intro a hl
          refine wl (wl_val hl rfl trivial (r_assign hl rfl) ?_)
          clear hl a; intro a hl
          refine w_nil ?_
          have hl2 := hl.add (t := 2) (hl.add (t := 4) (hl.add (t := 5) (hl.add (t := 7) (hl.nil) rfl) rfl) rfl) rfl; clear hl; have hl := hl2; clear hl2
          refine then_normal ?_
          refine c_seq ?_
          refine c_region ?_
          refine wl (wl_val hl rfl trivial (r_field hl rfl fld53_0) ?_)
          clear hl a; intro a hl
          first | refine wl (w_load hl hh rfl trivial one50 rfl (by repeat (first | exact find_head | apply find_tail)) (by first | rfl) ?_) | refine wl (w_loadR hl hh rfl trivial one50 rfl hm (by simp) hq1 ?_)
          clear hl a; intro a hl
          refine wl (wl_val hl rfl trivial (r_sliceS10x hl rfl rfl slc50 (by omega) (by first | (simp only [Int.reduceToNat]; rfl) | exact toNat_add1 _ | exact toNat_add2 _ _ | exact toNat_emod _ _ | exact Int.toNat_natCast _ | rfl)) ?_)
          clear hl a; intro a hl
          refine wl (wl_val hl rfl trivial (r_field hl rfl fld53_0) ?_)
          clear hl a; intro a hl
          refine wl (w_store hl hh trivial one50 rfl rfl (by repeat (first | exact find_head | apply find_tail)) (by first | (simp; done) | (simp; omega)) (by first | rfl | assumption | (apply Row.one; assumption)) (by first | (simp only [setL, List.getElem?_cons_zero, List.getElem?_cons_succ, Value.cells, List.take_zero, List.take_succ_cons, List.take_nil, List.drop_zero, List.drop_succ_cons, List.drop_nil, List.length_cons, List.length_nil, List.cons_append, List.nil_append, List.append_nil, Nat.zero_add, Nat.add_zero, Nat.reduceAdd, Nat.reduceBEq, Nat.reduceEqDiff, Nat.ble, BEq.rfl, Bool.and_true, Bool.and_self, cond_true, beq_self_eq_true]; rfl)) ?_)
          clear hh w; intro w hh
          refine w_nil ?_
          have hl2 := hl.add (t := 2) (hl.add (t := 4) (hl.add (t := 5) (hl.add (t := 7) (hl.nil) rfl) rfl) rfl) rfl; clear hl; have hl := hl2; clear hl2
          refine then_normal ?_
          refine c_seq ?_
          refine c_draw [(k2, C [.slice (if c9 = 1 then some ⟨b9, o9, none⟩ else some ⟨b9, o9 + 1 * 1, none⟩) (A.length + 1 - 1) (c9 - 1), .slice none 0 0, .int .i64 0] 53)] [4] mixed hh ?_
          clear hh w; intro w hh
          have hM : Mem [(k2, C [.slice (if c9 = 1 then some ⟨b9, o9, none⟩ else some ⟨b9, o9 + 1 * 1, none⟩) (A.length + 1 - 1) (c9 - 1), .slice none 0 0, .int .i64 0] 53)] w := (by (repeat (first | exact Mem.nil | refine Mem.cons hh.mem (by (repeat (first | exact find_head | apply find_tail)); done) ?_ | refine Mem.consR hh (by assumption) (by simp) ?_ | fail)); done)
          refine d_take (i := 0) hl rfl (by kernel_rfl) (by kernel_rfl) (by kernel_rfl) (by kernel_rfl) (by kernel_rfl) rfl trivial (fun _ _ _ h => h) hM (fun w hC => r_move hl rfl) rfl ?_
          clear hl a; intro a hl
          refine d_take (i := 1) hl rfl (by kernel_rfl) (by kernel_rfl) (by kernel_rfl) (by kernel_rfl) (by kernel_rfl) rfl trivial (fun _ _ _ h => h) hM (fun w hC => r_build hl rfl zero39 bld39 (by simp only [fillL, setL, List.getElem?_cons_zero, List.getElem?_cons_succ, Value.cells, List.take_zero, List.take_succ_cons, List.take_nil, List.drop_zero, List.drop_succ_cons, List.drop_nil, List.length_cons, List.length_nil, List.cons_append, List.nil_append, List.append_nil, Nat.zero_add, Nat.add_zero, Nat.reduceAdd, Nat.reduceBEq, Nat.reduceEqDiff, Nat.ble, BEq.rfl, Bool.and_true, Bool.and_self, cond_true, beq_self_eq_true]; rfl)) rfl ?_
          clear hl a; intro a hl
          refine d_take (i := 2) hl rfl (by kernel_rfl) (by kernel_rfl) (by kernel_rfl) (by kernel_rfl) (by kernel_rfl) rfl trivial (fun _ _ _ h => h) hM (fun w hC => r_loadCA hl rfl agg53 hC (by repeat (first | exact find_head | apply find_tail)) (by first | (simp only [List.getElem?_cons_zero, List.getElem?_cons_succ, Value.cells, List.take_zero, List.take_succ_cons, List.take_nil, List.drop_zero, List.drop_succ_cons, List.drop_nil, List.length_cons, List.length_nil, List.cons_append, List.nil_append, List.append_nil, Nat.zero_add, Nat.add_zero, Nat.reduceAdd, Nat.reduceBEq, Nat.reduceEqDiff, Nat.ble, BEq.rfl, Bool.and_true, Bool.and_self, cond_true, beq_self_eq_true]; rfl)) (by first | rfl | (simp; done))) rfl ?_
          clear hl a; intro a hl
          refine d_one (i := 3) (by kernel_rfl) rfl ?_
          try clear hM
          refine id (w_storeA hl hh trivial agg39 rfl rfl (by repeat (first | exact find_head | apply find_tail)) (by first | rfl | (simp; done)) (by first | (simp; done) | (simp; omega)) (by first | rfl | (simp; done) | exact one_dq (one_ite _ _)) (by first | (simp only [setL, List.getElem?_cons_zero, List.getElem?_cons_succ, Value.cells, List.take_zero, List.take_succ_cons, List.take_nil, List.drop_zero, List.drop_succ_cons, List.drop_nil, List.length_cons, List.length_nil, List.cons_append, List.nil_append, List.append_nil, Nat.zero_add, Nat.add_zero, Nat.reduceAdd, Nat.reduceBEq, Nat.reduceEqDiff, Nat.ble, BEq.rfl, Bool.and_true, Bool.and_self, cond_true, beq_self_eq_true]; rfl)) ?_)
          clear hh w; intro w hh
          have hM : Mem [(k2, C [.slice (if c9 = 1 then some ⟨b9, o9, none⟩ else some ⟨b9, o9 + 1 * 1, none⟩) (A.length + 1 - 1) (c9 - 1), .slice none 0 0, .int .i64 0] 53)] w := (by (repeat (first | exact Mem.nil | refine Mem.cons hh.mem (by (repeat (first | exact find_head | apply find_tail)); done) ?_ | refine Mem.consR hh (by assumption) (by simp) ?_ | fail)); done)
          refine d_step (fun _ => hM) ?_
          refine d_one (i := 4) (by kernel_rfl) rfl ?_
          try clear hM
          refine id (w_storeA hl hh trivial agg53 rfl rfl (by repeat (first | exact find_head | apply find_tail)) (by first | rfl | (simp; done)) (by first | (simp; done) | (simp; omega)) (by first | rfl | (simp; done) | exact one_dq (one_ite _ _)) (by first | (simp only [setL, List.getElem?_cons_zero, List.getElem?_cons_succ, Value.cells, List.take_zero, List.take_succ_cons, List.take_nil, List.drop_zero, List.drop_succ_cons, List.drop_nil, List.length_cons, List.length_nil, List.cons_append, List.nil_append, List.append_nil, Nat.zero_add, Nat.add_zero, Nat.reduceAdd, Nat.reduceBEq, Nat.reduceEqDiff, Nat.ble, BEq.rfl, Bool.and_true, Bool.and_self, cond_true, beq_self_eq_true]; rfl)) ?_)
          clear hh w; intro w hh
          refine d_step (fun h => absurd h (by decide)) ?_
          refine d_done (by kernel_rfl) ?_
          try clear hM
          have hl2 := hl.add (t := 4) (hl.add (t := 5) (hl.nil) rfl) rfl; clear hl; have hl := hl2; clear hl2
          refine then_normal ?_
          refine wp_ret ?_
          refine blk_ret ?_
          refine then_ret ?_
          refine f_retCC (F' := []) hl hh rfl rfl rfl agg39 agg53 (by repeat (first | exact find_head | apply find_tail)) (by repeat (first | exact find_head | apply find_tail)) (by first | rfl | (simp; done)) (by first | rfl | (simp; done)) (by repeat (first | exact keeps_nil | apply keeps_cons (by repeat (first | exact find_head | apply find_tail)) (by first  | rfl) | exact keeps_self | exact keeps_left | exact keeps_right | exact keeps_swap | apply keeps_mv)) ?_
          exact stp (r := ⟨1, x.2, 0⟩) (by rw [st_pop2, hx0]) (StR.tail hz ho hZ h5 hc9)
      · intro hc4
        try simp only [decide_eq_true_eq, decide_eq_false_iff_not, Bool.not_eq_true', Bool.not_eq_false', Bool.not_eq_true, Bool.not_eq_false, Bool.and_eq_true, Bool.or_eq_true, Bool.and_eq_false_iff, Bool.or_eq_false_iff, Bool.not_not, ne_eq, Int.not_lt, Int.not_le, Decidable.not_not, beq_iff_eq, bne_iff_ne] at hc4
        exfalso; first | omega | contradiction | (simp at *; done)

set_option maxHeartbeats 2000000 in
theorem stepDp3 (N : Nat) (A : List (Int × Int)) (x : Int × Int) (Z : List (Nat × Obj)) (cv : Int) (hz : ∀ y ∈ A ++ [x], y.1 = 0) (ho : AOk (A ++ [x])) (b9 o9 c9 : Nat) (l9 : List Value) (T9 : TypeId) (hZ : (b9, C l9 T9) ∈ Z) (h5 : (l9.drop o9).take (fl u64c (A ++ [x])).length = fl u64c (A ++ [x])) (hc9 : A.length + 1 ≤ c9) : SpK Tryz.prog 31 #[.agg ⟨[.slice (some ⟨b9, o9, none⟩) (A.length + 1) c9, .slice none 0 0, .int .i64 0]⟩, .agg ⟨[.int .u8 3, .int .u64 cv, .int .u64 0]⟩] (Mem Z) [] (StepPost false N (A ++ [x]) 3 cv 0 Z) := by
  refine f_enter (args := [.agg ⟨[.slice (some ⟨b9, o9, none⟩) (A.length + 1) c9, .slice none 0 0, .int .i64 0]⟩, .agg ⟨[.int .u8 3, .int .u64 cv, .int .u64 0]⟩]) Tryz.func31 rfl Tryz.ntmps31 rfl ?_
  intro w0 w a hpre hl hh
  have hlen := ho.len
  rw [List.length_append, List.length_singleton] at hlen
  have hm : w0.heap[b9]? = some (C l9 T9) := hpre _ _ hZ
  have hq1 := u64_at h5 (i := A.length) (x := x) (by simp)
  have hx0 : x.1 = 0 := hz x (by simp)
  simp only [slotsFrom, Nat.reduceAdd] at hl
  refine c_seq ?_
  refine c_region ?_
  refine wl (w_box hl hh rfl trivial rfl rfl ?_)
  clear hl hh a w; intro k2 a w hl hh
  refine wl (w_box hl hh rfl trivial rfl rfl ?_)
  clear hl hh a w; intro k3 a w hl hh
  refine wl (w_alloc hl hh rfl trivial zero39 rfl ?_)
  clear hl hh a w; intro k4 a w hl hh
  refine wl (w_alloc hl hh rfl trivial zero53 rfl ?_)
  clear hl hh a w; intro k5 a w hl hh
  refine w_nil ?_
  have hl2 := hl.add (t := 2) (hl.add (t := 3) (hl.add (t := 4) (hl.add (t := 5) (hl.nil) rfl) rfl) rfl) rfl; clear hl; have hl := hl2; clear hl2
  refine then_normal ?_
  refine c_seq ?_
  refine c_region ?_
  refine wl (wl_val hl rfl trivial (r_field hl rfl fld53_0) ?_)
  clear hl a; intro a hl
  first | refine wl (w_load hl hh rfl trivial one50 rfl (by repeat (first | exact find_head | apply find_tail)) (by first | rfl) ?_) | refine wl (w_loadR hl hh rfl trivial one50 rfl hm (by simp) hq1 ?_)
  clear hl a; intro a hl
  refine wl (wl_val hl rfl trivial (r_lenS hl rfl slc50) ?_)
  clear hl a; intro a hl
  refine wl (wl_val hl rfl trivial (r_assign hl rfl) ?_)
  clear hl a; intro a hl
  refine w_nil ?_
  have hl2 := hl.add (t := 2) (hl.add (t := 3) (hl.add (t := 4) (hl.add (t := 5) (hl.add (t := 6) (hl.nil) rfl) rfl) rfl) rfl) rfl; clear hl; have hl := hl2; clear hl2
  refine then_normal ?_
  refine c_seq ?_
  refine c_seq ?_
  refine c_region ?_
  refine wl (wl_val hl rfl trivial (r_field hl rfl fld60_0) ?_)
  clear hl a; intro a hl
  first | refine wl (w_load hl hh rfl trivial one35 rfl (by repeat (first | exact find_head | apply find_tail)) (by first | rfl) ?_) | refine wl (w_loadR hl hh rfl trivial one35 rfl hm (by simp) hq1 ?_)
  clear hl a; intro a hl
  refine w_nil ?_
  have hl2 := hl.add (t := 2) (hl.add (t := 3) (hl.add (t := 4) (hl.add (t := 5) (hl.add (t := 6) (hl.add (t := 15) (hl.nil) rfl) rfl) rfl) rfl) rfl) rfl; clear hl; have hl := hl2; clear hl2
  refine then_normal ?_
  refine wp_block ?_
  refine c_seq ?_
  refine c_region ?_
  refine wl (wl_val hl rfl trivial (r_eql hl rfl rfl) ?_)
  clear hl a; intro a hl
  refine wl (wl_val hl rfl trivial (r_assign hl rfl) ?_)
  clear hl a; intro a hl
  refine w_nil ?_
  have hl2 := hl.add (t := 2) (hl.add (t := 3) (hl.add (t := 4) (hl.add (t := 5) (hl.add (t := 6) (hl.add (t := 15) (hl.add (t := 16) (hl.nil) rfl) rfl) rfl) rfl) rfl) rfl) rfl; clear hl; have hl := hl2; clear hl2
  refine then_normal ?_
  refine c_cond hl rfl ?_ ?_
  · intro hc0
    try simp only [decide_eq_true_eq, decide_eq_false_iff_not, Bool.not_eq_true', Bool.not_eq_false', Bool.not_eq_true, Bool.not_eq_false, Bool.and_eq_true, Bool.or_eq_true, Bool.and_eq_false_iff, Bool.or_eq_false_iff, Bool.not_not, ne_eq, Int.not_lt, Int.not_le, Decidable.not_not, beq_iff_eq, bne_iff_ne] at hc0
    exfalso; first | omega | contradiction | (simp at *; done)
  · intro hc0
    try simp only [decide_eq_true_eq, decide_eq_false_iff_not, Bool.not_eq_true', Bool.not_eq_false', Bool.not_eq_true, Bool.not_eq_false, Bool.and_eq_true, Bool.or_eq_true, Bool.and_eq_false_iff, Bool.or_eq_false_iff, Bool.not_not, ne_eq, Int.not_lt, Int.not_le, Decidable.not_not, beq_iff_eq, bne_iff_ne] at hc0
    refine c_seq ?_
    refine c_region ?_
    refine wl (wl_val hl rfl trivial (r_eql hl rfl rfl) ?_)
    clear hl a; intro a hl
    refine wl (wl_val hl rfl trivial (r_assign hl rfl) ?_)
    clear hl a; intro a hl
    refine w_nil ?_
    have hl2 := hl.add (t := 2) (hl.add (t := 3) (hl.add (t := 4) (hl.add (t := 5) (hl.add (t := 6) (hl.add (t := 15) (hl.add (t := 31) (hl.nil) rfl) rfl) rfl) rfl) rfl) rfl) rfl; clear hl; have hl := hl2; clear hl2
    refine then_normal ?_
    refine c_cond hl rfl ?_ ?_
    · intro hc2
      try simp only [decide_eq_true_eq, decide_eq_false_iff_not, Bool.not_eq_true', Bool.not_eq_false', Bool.not_eq_true, Bool.not_eq_false, Bool.and_eq_true, Bool.or_eq_true, Bool.and_eq_false_iff, Bool.or_eq_false_iff, Bool.not_not, ne_eq, Int.not_lt, Int.not_le, Decidable.not_not, beq_iff_eq, bne_iff_ne] at hc2
      exfalso; first | omega | contradiction | (simp at *; done)
    · intro hc2
      try simp only [decide_eq_true_eq, decide_eq_false_iff_not, Bool.not_eq_true', Bool.not_eq_false', Bool.not_eq_true, Bool.not_eq_false, Bool.and_eq_true, Bool.or_eq_true, Bool.and_eq_false_iff, Bool.or_eq_false_iff, Bool.not_not, ne_eq, Int.not_lt, Int.not_le, Decidable.not_not, beq_iff_eq, bne_iff_ne] at hc2
      refine c_seq ?_
      refine c_region ?_
      refine wl (wl_val hl rfl trivial (r_eql hl rfl rfl) ?_)
      clear hl a; intro a hl
      refine wl (wl_val hl rfl trivial (r_assign hl rfl) ?_)
      clear hl a; intro a hl
      refine w_nil ?_
      have hl2 := hl.add (t := 2) (hl.add (t := 3) (hl.add (t := 4) (hl.add (t := 5) (hl.add (t := 6) (hl.add (t := 15) (hl.add (t := 48) (hl.nil) rfl) rfl) rfl) rfl) rfl) rfl) rfl; clear hl; have hl := hl2; clear hl2
      refine then_normal ?_
      refine c_cond hl rfl ?_ ?_
      · intro hc4
        try simp only [decide_eq_true_eq, decide_eq_false_iff_not, Bool.not_eq_true', Bool.not_eq_false', Bool.not_eq_true, Bool.not_eq_false, Bool.and_eq_true, Bool.or_eq_true, Bool.and_eq_false_iff, Bool.or_eq_false_iff, Bool.not_not, ne_eq, Int.not_lt, Int.not_le, Decidable.not_not, beq_iff_eq, bne_iff_ne] at hc4
        exfalso; first | omega | contradiction | (simp at *; done)
      · intro hc4
        try simp only [decide_eq_true_eq, decide_eq_false_iff_not, Bool.not_eq_true', Bool.not_eq_false', Bool.not_eq_true, Bool.not_eq_false, Bool.and_eq_true, Bool.or_eq_true, Bool.and_eq_false_iff, Bool.or_eq_false_iff, Bool.not_not, ne_eq, Int.not_lt, Int.not_le, Decidable.not_not, beq_iff_eq, bne_iff_ne] at hc4
        refine c_seq ?_
        refine c_region ?_
        refine wl (wl_val hl rfl trivial (r_eql hl rfl rfl) ?_)
        clear hl a; intro a hl
        refine wl (wl_val hl rfl trivial (r_assign hl rfl) ?_)
        clear hl a; intro a hl
        refine w_nil ?_
        have hl2 := hl.add (t := 2) (hl.add (t := 3) (hl.add (t := 4) (hl.add (t := 5) (hl.add (t := 6) (hl.add (t := 15) (hl.add (t := 65) (hl.nil) rfl) rfl) rfl) rfl) rfl) rfl) rfl; clear hl; have hl := hl2; clear hl2
        refine then_normal ?_
        refine c_cond hl rfl ?_ ?_
        · intro hc6
          try simp only [decide_eq_true_eq, decide_eq_false_iff_not, Bool.not_eq_true', Bool.not_eq_false', Bool.not_eq_true, Bool.not_eq_false, Bool.and_eq_true, Bool.or_eq_true, Bool.and_eq_false_iff, Bool.or_eq_false_iff, Bool.not_not, ne_eq, Int.not_lt, Int.not_le, Decidable.not_not, beq_iff_eq, bne_iff_ne] at hc6
          refine c_seq ?_
          refine c_seq ?_
          refine c_region ?_
          refine wl (wl_val hl rfl trivial (r_move hl rfl) ?_)
          clear hl a; intro a hl
          refine wl (wl_val hl rfl trivial (r_eql hl rfl rfl) ?_)
          clear hl a; intro a hl
          refine w_nil ?_
          have hl2 := hl.add (t := 2) (hl.add (t := 4) (hl.add (t := 5) (hl.add (t := 6) (hl.add (t := 68) (hl.nil) rfl) rfl) rfl) rfl) rfl; clear hl; have hl := hl2; clear hl2
          refine then_normal ?_
          refine c_cond hl rfl ?_ ?_
          · intro hc7
            try simp only [decide_eq_true_eq, decide_eq_false_iff_not, Bool.not_eq_true', Bool.not_eq_false', Bool.not_eq_true, Bool.not_eq_false, Bool.and_eq_true, Bool.or_eq_true, Bool.and_eq_false_iff, Bool.or_eq_false_iff, Bool.not_not, ne_eq, Int.not_lt, Int.not_le, Decidable.not_not, beq_iff_eq, bne_iff_ne] at hc7
            exfalso; first | omega | contradiction | (simp at *; done)
          · intro hc7
            try simp only [decide_eq_true_eq, decide_eq_false_iff_not, Bool.not_eq_true', Bool.not_eq_false', Bool.not_eq_true, Bool.not_eq_false, Bool.and_eq_true, Bool.or_eq_true, Bool.and_eq_false_iff, Bool.or_eq_false_iff, Bool.not_not, ne_eq, Int.not_lt, Int.not_le, Decidable.not_not, beq_iff_eq, bne_iff_ne] at hc7
            refine wp_skip ?_
            refine then_normal ?_
            refine c_seq ?_
            refine c_region ?_
            refine wl (wl_val hl rfl trivial (r_field hl rfl fld53_0) ?_)
            clear hl a; intro a hl
            first | refine wl (w_load hl hh rfl trivial one50 rfl (by repeat (first | exact find_head | apply find_tail)) (by first | rfl) ?_) | refine wl (w_loadR hl hh rfl trivial one50 rfl hm (by simp) hq1 ?_)
            clear hl a; intro a hl
            refine wl (wl_val hl rfl trivial (r_move hl rfl) ?_)
            clear hl a; intro a hl
            first | refine wl (wl_val hl rfl trivial (r_sub hl rfl rfl (by simp only [Fits]; omega)) ?_) | refine wl (wl_val hl rfl trivial (r_subW hl rfl rfl) ?_)
            clear hl a; intro a hl
            rw [show (((A.length + 1 : Nat) : Int) - 1) = ((A.length : Nat) : Int) by omega] at hl
            refine wl (wl_val hl rfl trivial (r_indexS hl rfl rfl slc50 (by omega) (by omega) (by first | (simp only [Int.reduceToNat]; rfl) | exact toNat_add1 _ | exact toNat_add2 _ _ | exact toNat_emod _ _ | exact Int.toNat_natCast _ | rfl)) ?_)
            clear hl a; intro a hl
            first | refine wl (w_load hl hh rfl trivial one37 rfl (by repeat (first | exact find_head | apply find_tail)) (by first | rfl) ?_) | refine wl (w_loadR hl hh rfl trivial one37 rfl hm (by simp) hq1 ?_)
            clear hl a; intro a hl
            refine wl (wl_val hl rfl trivial (r_assign hl rfl) ?_)
            clear hl a; intro a hl
            refine w_nil ?_
            have hl2 := hl.add (t := 2) (hl.add (t := 4) (hl.add (t := 5) (hl.add (t := 6) (hl.add (t := 8) (hl.nil) rfl) rfl) rfl) rfl) rfl; clear hl; have hl := hl2; clear hl2
            refine then_normal ?_
            refine c_seq ?_
            refine c_region ?_
            refine wl (wl_val hl rfl trivial (r_field hl rfl fld53_0) ?_)
            clear hl a; intro a hl
            first | refine wl (w_load hl hh rfl trivial one50 rfl (by repeat (first | exact find_head | apply find_tail)) (by first | rfl) ?_) | refine wl (w_loadR hl hh rfl trivial one50 rfl hm (by simp) hq1 ?_)
            clear hl a; intro a hl
            refine wl (wl_val hl rfl trivial (r_move hl rfl) ?_)
            clear hl a; intro a hl
            first | refine wl (wl_val hl rfl trivial (r_sub hl rfl rfl (by simp only [Fits]; omega)) ?_) | refine wl (wl_val hl rfl trivial (r_subW hl rfl rfl) ?_)
            clear hl a; intro a hl
            rw [show (((A.length + 1 : Nat) : Int) - 1) = ((A.length : Nat) : Int) by omega] at hl
            refine wl (wl_val hl rfl trivial (r_sliceS01 (by intro q e; first | (cases e; rfl) | (cases e; done)) hl rfl rfl slc50 (by omega) (by first | (simp only [Int.reduceToNat]; rfl) | exact toNat_add1 _ | exact toNat_add2 _ _ | exact toNat_emod _ _ | exact Int.toNat_natCast _ | rfl)) ?_)
            clear hl a; intro a hl
            refine wl (wl_val hl rfl trivial (r_field hl rfl fld53_0) ?_)
            clear hl a; intro a hl
            refine wl (w_store hl hh trivial one50 rfl rfl (by repeat (first | exact find_head | apply find_tail)) (by first | (simp; done) | (simp; omega)) (by first | rfl | assumption | (apply Row.one; assumption)) (by first | (simp only [setL, List.getElem?_cons_zero, List.getElem?_cons_succ, Value.cells, List.take_zero, List.take_succ_cons, List.take_nil, List.drop_zero, List.drop_succ_cons, List.drop_nil, List.length_cons, List.length_nil, List.cons_append, List.nil_append, List.append_nil, Nat.zero_add, Nat.add_zero, Nat.reduceAdd, Nat.reduceBEq, Nat.reduceEqDiff, Nat.ble, BEq.rfl, Bool.and_true, Bool.and_self, cond_true, beq_self_eq_true]; rfl)) ?_)
            clear hh w; intro w hh
            refine w_nil ?_
            have hl2 := hl.add (t := 2) (hl.add (t := 4) (hl.add (t := 5) (hl.add (t := 8) (hl.nil) rfl) rfl) rfl) rfl; clear hl; have hl := hl2; clear hl2
            refine then_normal ?_
            refine c_seq ?_
            refine c_draw [(k2, C [.slice (some ⟨b9, o9, none⟩) A.length c9, .slice none 0 0, .int .i64 0] 53)] [4] mixed hh ?_
            clear hh w; intro w hh
            have hM : Mem [(k2, C [.slice (some ⟨b9, o9, none⟩) A.length c9, .slice none 0 0, .int .i64 0] 53)] w := (by (repeat (first | exact Mem.nil | refine Mem.cons hh.mem (by (repeat (first | exact find_head | apply find_tail)); done) ?_ | refine Mem.consR hh (by assumption) (by simp) ?_ | fail)); done)
            refine d_take (i := 0) hl rfl (by kernel_rfl) (by kernel_rfl) (by kernel_rfl) (by kernel_rfl) (by kernel_rfl) rfl trivial (fun _ _ _ h => h) hM (fun w hC => r_move hl rfl) rfl ?_
            clear hl a; intro a hl
            refine d_take (i := 1) hl rfl (by kernel_rfl) (by kernel_rfl) (by kernel_rfl) (by kernel_rfl) (by kernel_rfl) rfl trivial (fun _ _ _ h => h) hM (fun w hC => r_build hl rfl zero39 bld39 (by simp only [fillL, setL, List.getElem?_cons_zero, List.getElem?_cons_succ, Value.cells, List.take_zero, List.take_succ_cons, List.take_nil, List.drop_zero, List.drop_succ_cons, List.drop_nil, List.length_cons, List.length_nil, List.cons_append, List.nil_append, List.append_nil, Nat.zero_add, Nat.add_zero, Nat.reduceAdd, Nat.reduceBEq, Nat.reduceEqDiff, Nat.ble, BEq.rfl, Bool.and_true, Bool.and_self, cond_true, beq_self_eq_true]; rfl)) rfl ?_
            clear hl a; intro a hl
            refine d_take (i := 2) hl rfl (by kernel_rfl) (by kernel_rfl) (by kernel_rfl) (by kernel_rfl) (by kernel_rfl) rfl trivial (fun _ _ _ h => h) hM (fun w hC => r_loadCA hl rfl agg53 hC (by repeat (first | exact find_head | apply find_tail)) (by first | (simp only [List.getElem?_cons_zero, List.getElem?_cons_succ, Value.cells, List.take_zero, List.take_succ_cons, List.take_nil, List.drop_zero, List.drop_succ_cons, List.drop_nil, List.length_cons, List.length_nil, List.cons_append, List.nil_append, List.append_nil, Nat.zero_add, Nat.add_zero, Nat.reduceAdd, Nat.reduceBEq, Nat.reduceEqDiff, Nat.ble, BEq.rfl, Bool.and_true, Bool.and_self, cond_true, beq_self_eq_true]; rfl)) (by first | rfl | (simp; done))) rfl ?_
            clear hl a; intro a hl
            refine d_one (i := 3) (by kernel_rfl) rfl ?_
            try clear hM
            refine id (w_storeA hl hh trivial agg39 rfl rfl (by repeat (first | exact find_head | apply find_tail)) (by first | rfl | (simp; done)) (by first | (simp; done) | (simp; omega)) (by first | rfl | (simp; done) | exact one_dq hR3.one | exact one_dq hR2.one | exact one_bf hR3.one | exact one_bf hR2.one) (by first | (simp only [setL, List.getElem?_cons_zero, List.getElem?_cons_succ, Value.cells, List.take_zero, List.take_succ_cons, List.take_nil, List.drop_zero, List.drop_succ_cons, List.drop_nil, List.length_cons, List.length_nil, List.cons_append, List.nil_append, List.append_nil, Nat.zero_add, Nat.add_zero, Nat.reduceAdd, Nat.reduceBEq, Nat.reduceEqDiff, Nat.ble, BEq.rfl, Bool.and_true, Bool.and_self, cond_true, beq_self_eq_true]; rfl)) ?_)
            clear hh w; intro w hh
            have hM : Mem [(k2, C [.slice (some ⟨b9, o9, none⟩) A.length c9, .slice none 0 0, .int .i64 0] 53)] w := (by (repeat (first | exact Mem.nil | refine Mem.cons hh.mem (by (repeat (first | exact find_head | apply find_tail)); done) ?_ | refine Mem.consR hh (by assumption) (by simp) ?_ | fail)); done)
            refine d_step (fun _ => hM) ?_
            refine d_one (i := 4) (by kernel_rfl) rfl ?_
            try clear hM
            refine id (w_storeA hl hh trivial agg53 rfl rfl (by repeat (first | exact find_head | apply find_tail)) (by first | rfl | (simp; done)) (by first | (simp; done) | (simp; omega)) (by first | rfl | (simp; done) | exact one_dq hR3.one | exact one_dq hR2.one | exact one_bf hR3.one | exact one_bf hR2.one) (by first | (simp only [setL, List.getElem?_cons_zero, List.getElem?_cons_succ, Value.cells, List.take_zero, List.take_succ_cons, List.take_nil, List.drop_zero, List.drop_succ_cons, List.drop_nil, List.length_cons, List.length_nil, List.cons_append, List.nil_append, List.append_nil, Nat.zero_add, Nat.add_zero, Nat.reduceAdd, Nat.reduceBEq, Nat.reduceEqDiff, Nat.ble, BEq.rfl, Bool.and_true, Bool.and_self, cond_true, beq_self_eq_true]; rfl)) ?_)
            clear hh w; intro w hh
            refine d_step (fun h => absurd h (by decide)) ?_
            refine d_done (by kernel_rfl) ?_
            try clear hM
            have hl2 := hl.add (t := 4) (hl.add (t := 5) (hl.nil) rfl) rfl; clear hl; have hl := hl2; clear hl2
            refine then_normal ?_
            refine wp_ret ?_
            refine blk_ret ?_
            refine then_ret ?_
            refine f_retCC (F' := []) hl hh rfl rfl rfl agg39 agg53 (by repeat (first | exact find_head | apply find_tail)) (by repeat (first | exact find_head | apply find_tail)) (by first | rfl | (simp; done)) (by first | rfl | (simp; done)) (by repeat (first | exact keeps_nil | apply keeps_cons (by repeat (first | exact find_head | apply find_tail)) (by first  | rfl) | exact keeps_self | exact keeps_left | exact keeps_right | exact keeps_swap | apply keeps_mv)) ?_
            exact stp (r := ⟨1, x.2, 0⟩) (by rw [st_pop3, hx0]) (StR.front hz ho hZ h5 hc9)
        · intro hc6
          try simp only [decide_eq_true_eq, decide_eq_false_iff_not, Bool.not_eq_true', Bool.not_eq_false', Bool.not_eq_true, Bool.not_eq_false, Bool.and_eq_true, Bool.or_eq_true, Bool.and_eq_false_iff, Bool.or_eq_false_iff, Bool.not_not, ne_eq, Int.not_lt, Int.not_le, Decidable.not_not, beq_iff_eq, bne_iff_ne] at hc6
          exfalso; first | omega | contradiction | (simp at *; done)
end Go.Proofs.Qxb6500914aGreat

import Derived.Test.Qxb6500907aN4
namespace Go.Proofs.Qxb6500907a
open Go.Eng
set_option linter.unusedVariables false
set_option linter.unusedSimpArgs false
theorem cal41 : callable Try.prog 41 = true := by kernel_rfl
def ApplyR (rv av : Nat → Value) (P : Pl) (cs : List Ch) (Z : List (Nat × Obj)) (u : Value) (F' : List (Nat × Obj)) : Prop :=
  (∃ P' us rv' av', chk cs ∧ steps P cs = (P', us, 0) ∧ POk P' ∧ NetR rv' av' P' (Z ++ F') ∧ u = .tuple #[.agg ⟨arrL 64 (nvF rv' av' P')⟩, .nilIface]) ∨
  (∃ (k : Nat) (code pos : Int), RunBad P cs code pos ∧ u = .tuple #[.agg ⟨arrL 64 (nvF rv av P)⟩, .iface 77 (.pointer (some ⟨k, 0, none⟩))] ∧ F' = [(k, C [.int .u8 code, .int .i64 pos] 79)])
def InvR (idv : Int) (P : Pl) (cs : List Ch) (u : Value) (F' : List (Nat × Obj)) : Prop :=
  (∃ P' us uv, chk cs ∧ steps P cs = (P', us, 0) ∧ us.length = cs.length ∧ (∀ c, c ∈ us → c.ok) ∧ Row uv us.length (chs us.reverse) 12 57 F' ∧ u = .tuple #[.agg ⟨[.int .u32 idv, uv]⟩, .nilIface]) ∨
  (∃ (k : Nat) (code pos : Int), RunBad P cs code pos ∧ u = .tuple #[.agg ⟨[.int .u32 0, .slice none 0 0]⟩, .iface 77 (.pointer (some ⟨k, 0, none⟩))] ∧ F' = [(k, C [.int .u8 code, .int .i64 pos] 79)])
theorem fl_set {α : Type} {f : α → List Value} {s : Nat} (hs : ∀ a, (f a).length = s) (l : List α) (c : α) (junk : List Value) (i : Nat) (h : i < l.length) : setL (fl f l ++ junk) (0 + i * s) (f c) = fl f (l.set i c) ++ junk := by
  have hA : (fl f (l.take i)).length = i * s := by rw [fl_len hs, List.length_take]; congr 1; omega
  have h1 : fl f l = fl f (l.take i) ++ f l[i] ++ fl f (l.drop (i + 1)) := by rw [fl_split l i, List.drop_eq_getElem_cons h, fl_cons]; simp
  have h2 : fl f (l.set i c) = fl f (l.take i) ++ f c ++ fl f (l.drop (i + 1)) := by rw [List.set_eq_take_append_cons_drop, if_pos h, fl_append, fl_cons]; simp
  rw [h1, h2, Nat.zero_add, ← hA, List.append_assoc (fl f (l.take i) ++ f l[i]), setL_mid _ _ _ _ (by rw [hs, hs])]
  simp
theorem ch_len (c : Ch) : c.vals.length = 12 := rfl
theorem chs_set (l : List Ch) (c : Ch) (junk : List Value) (i : Nat) (h : i < l.length) : setL (chs l ++ junk) (0 + i * 12) c.vals = chs (l.set i c) ++ junk := fl_set ch_len l c junk i h
/-- how far a list is turned -/
def RevI (us l : List Ch) (i : Nat) : Prop := l.length = us.length ∧ ∀ j, j < us.length → l[j]? = if j < i ∨ us.length ≤ j + i then us[us.length - 1 - j]? else us[j]?
theorem RevI.start (us : List Ch) : RevI us us 0 := ⟨rfl, fun j hj => by rw [if_neg (by omega)]⟩
theorem RevI.next {us l : List Ch} {i k : Nat} {ci ck : Ch} (h : RevI us l i) (hk : k + 1 + i = us.length) (hik : i < k) (hi : l[i]? = some ci) (hkk : l[k]? = some ck) : RevI us ((l.set i ck).set k ci) (i + 1) := by
  refine ⟨by simp [h.1], fun j hj => ?_⟩
  have hl := h.1
  have e1 := h.2 i (by omega)
  have e2 := h.2 k (by omega)
  rw [if_neg (by omega)] at e1
  rw [if_neg (by omega)] at e2
  rw [hi] at e1
  rw [hkk] at e2
  by_cases c1 : j = k
  · subst c1
    rw [List.getElem?_set_self (by simp; omega), if_pos (by omega), show us.length - 1 - j = i by omega, ← e1]
  · rw [List.getElem?_set_ne (by omega)]
    by_cases c2 : j = i
    · subst c2
      rw [List.getElem?_set_self (by omega), if_pos (by omega), show us.length - 1 - j = k by omega, ← e2]
    · rw [List.getElem?_set_ne (by omega), h.2 j hj]
      by_cases c3 : j < i ∨ us.length ≤ j + i
      · rw [if_pos c3, if_pos (by omega)]
      · rw [if_neg c3, if_neg (by omega)]
theorem RevI.done {us l : List Ch} {i : Nat} (h : RevI us l i) (hd : us.length ≤ 2 * i + 1) : l = us.reverse := by
  apply List.ext_getElem?
  intro j
  by_cases hj : j < us.length
  · rw [h.2 j hj, List.getElem?_reverse hj]
    by_cases c : j < i ∨ us.length ≤ j + i
    · rw [if_pos c]
    · rw [if_neg c, show us.length - 1 - j = j by omega]
  · rw [List.getElem?_eq_none (by rw [h.1]; omega), List.getElem?_eq_none (by simp; omega)]
theorem rev_two (l : List Ch) (ci ck : Ch) (junk : List Value) (i k : Nat) (hi : i < l.length) (hk : k < l.length) : setL (setL (chs l ++ junk) (0 + i * 12) ck.vals) (0 + k * 12) ci.vals = chs ((l.set i ck).set k ci) ++ junk := by
  rw [chs_set l ck junk i hi, chs_set (l.set i ck) ci junk k (by simpa using hk)]
theorem chs_len2 (l : List Ch) (junk : List Value) (c : Ch) (i n : Nat) (h : (chs l ++ junk).length = n) (hi : i < l.length) : (setL (chs l ++ junk) (0 + i * 12) c.vals).length = n := by
  rw [chs_set l c junk i hi, ← h, List.length_append, List.length_append, chs_len, chs_len, List.length_set]


set_option maxHeartbeats 4000000 in
theorem apply_spec (idv : Int) (rv av : Nat → Value) (P : Pl) (Z : List (Nat × Obj)) (hN : NetR rv av P Z) (hP : POk P) (p : Option Addr) (cap : Nat) (cs : List Ch) (Ec : List (Nat × Obj)) (hR : Row (.slice p cs.length cap) cs.length (chs cs) 12 57 Ec) (hEc : ∀ x, x ∈ Ec → x ∈ Z) (hok : ∀ c, c ∈ cs → c.ok) (hlen : cs.length ≤ 1000000) : SpK Try.prog 18 #[.agg ⟨arrL 64 (nvF rv av P)⟩, .agg ⟨[.int .u32 idv, .slice p cs.length cap]⟩] (Mem Z) [] (ApplyR rv av P cs Z) := by
  refine f_enter (args := [.agg ⟨arrL 64 (nvF rv av P)⟩, .agg ⟨[.int .u32 idv, .slice p cs.length cap]⟩]) Try.func18 rfl Try.ntmps18 rfl ?_
  intro w0 w a hpre hl hh
  simp only [slotsFrom, Nat.reduceAdd] at hl
  refine c_seq ?_
  refine c_region ?_
  refine wl (w_box hl hh rfl trivial rfl rfl ?_)
  clear hl hh a w; intro k2 a w hl hh
  refine wl (w_box hl hh rfl trivial rfl rfl ?_)
  clear hl hh a w; intro k3 a w hl hh
  refine wl (w_alloc hl hh rfl trivial zero33 rfl ?_)
  clear hl hh a w; intro k4 a w hl hh
  refine wl (wl_val hl rfl trivial (r_assign hl rfl) ?_)
  clear hl a; intro a hl
  refine w_nil ?_
  have hl2 := hl.add (t := 2) (hl.add (t := 3) (hl.add (t := 4) (hl.nil) rfl) rfl) rfl; clear hl; have hl := hl2; clear hl2
  refine then_normal ?_
  refine c_seq ?_
  refine c_region ?_
  refine wl (w_loadA hl hh rfl trivial agg33 rfl (by repeat (first | exact find_head | apply find_tail)) (by first | exact whole _ _ | exact ed_take _ _ _ _) (by rw [arrL_length]) ?_)
  clear hl a; intro a hl
  refine wl (w_loadA hl hh rfl trivial agg37 rfl (by repeat (first | exact find_head | apply find_tail)) (by first | (simp only [List.getElem?_cons_zero, List.getElem?_cons_succ, Value.cells, List.take_zero, List.take_succ_cons, List.take_nil, List.drop_zero, List.drop_succ_cons, List.drop_nil, List.length_cons, List.length_nil, List.cons_append, List.nil_append, List.append_nil, Nat.zero_add, Nat.add_zero, Nat.reduceAdd, Nat.reduceBEq, Nat.reduceEqDiff, Nat.ble, BEq.rfl, Bool.and_true, Bool.and_self, cond_true, beq_self_eq_true]; rfl)) (by first | rfl | (simp; done)) ?_)
  clear hl a; intro a hl
  refine wl (w_call hl hh rfl trivial rfl cal41 rfl (run_spec idv rv av P Z hN hP p cap cs Ec hR hEc hok hlen) (by repeat (first | exact keeps_nil | apply keeps_cons (by repeat (first | exact find_head | apply find_tail)) (by first  | rfl) | exact keeps_self | exact keeps_left | exact keeps_right | exact keeps_swap | apply keeps_mv)) (mem_keep hh hpre) ?_)
  clear hl hh a w; intro vc Fc a w hR hl hh
  rcases hR with ⟨P', us, rv', av', uv, Eu, X, hchk, hst, hul, huok, hP2, hN2, hrow, rfl, rfl⟩ | ⟨k, code, pos, hbad, rfl, rfl⟩
  ·
    try simp only [List.cons_append, List.nil_append, List.append_nil] at hh
    replace hh := hh.comm
    simp only [List.cons_append, List.nil_append, List.append_nil] at hh
    have honeN := hN2.one
    have hone3 := hrow.one
    refine wl (wl_val hl rfl trivial (r_move hl rfl) ?_)
    clear hl a; intro a hl
    refine wl (wl_val hl rfl trivial (r_extract hl rfl (by simp only [List.getElem?_toArray, List.getElem?_cons_zero, List.getElem?_cons_succ]; rfl)) ?_)
    clear hl a; intro a hl
    refine wl (wl_val hl rfl trivial (r_extract hl rfl (by simp only [List.getElem?_toArray, List.getElem?_cons_zero, List.getElem?_cons_succ]; rfl)) ?_)
    clear hl a; intro a hl
    refine wl (wl_val hl rfl trivial (r_extract hl rfl (by simp only [List.getElem?_toArray, List.getElem?_cons_zero, List.getElem?_cons_succ]; rfl)) ?_)
    clear hl a; intro a hl
    refine wl (w_alloc hl hh rfl trivial zero33 rfl ?_)
    clear hl hh a w; intro k6 a w hl hh
    refine wl (w_storeA hl hh trivial agg33 rfl rfl (by repeat (first | exact find_head | apply find_tail)) (by rw [arrL_length]) (by rw [arrL_length]; omega) (by exact nv_one honeN) (by exact setw _ _ _) ?_)
    clear hh w; intro w hh
    refine wl (wl_val hl rfl trivial (r_assign hl rfl) ?_)
    clear hl a; intro a hl
    refine wl (wl_val hl rfl trivial (r_assign hl rfl) ?_)
    clear hl a; intro a hl
    refine w_nil ?_
    have hl2 := hl.add (t := 4) (hl.add (t := 6) (hl.add (t := 8) (hl.nil) rfl) rfl) rfl; clear hl; have hl := hl2; clear hl2
    refine then_normal ?_
    refine c_seq ?_
    refine c_region ?_
    refine wl (w_loadA hl hh rfl trivial agg33 rfl (by repeat (first | exact find_head | apply find_tail)) (by first | exact whole _ _ | exact ed_take _ _ _ _) (by rw [arrL_length]) ?_)
    clear hl a; intro a hl
    refine wl (wl_val hl rfl trivial (r_move hl rfl) ?_)
    clear hl a; intro a hl
    refine wl (w_storeA hl hh trivial agg33 rfl rfl (by repeat (first | exact find_head | apply find_tail)) (by rw [arrL_length]) (by rw [arrL_length]; omega) (by exact nv_one honeN) (by exact setw _ _ _) ?_)
    clear hh w; intro w hh
    refine wl (wl_val hl rfl trivial (r_assign hl rfl) ?_)
    clear hl a; intro a hl
    refine w_nil ?_
    have hl2 := hl.add (t := 4) (hl.add (t := 5) (hl.nil) rfl) rfl; clear hl; have hl := hl2; clear hl2
    refine then_normal ?_
    refine wp_ret ?_
    first | (refine f_retCT (F' := Eu ++ X) hl hh rfl rfl agg33 (by repeat (first | exact find_head | apply find_tail)) (arrL_length _ _) rfl (by repeat (first | exact keeps_nil | apply keeps_cons (by repeat (first | exact find_head | apply find_tail)) (by first  | rfl) | exact keeps_self | exact keeps_left | exact keeps_right | exact keeps_swap | apply keeps_mv)) ?_; exact .inl ⟨P', us, rv', av', hchk, hst, hP2, hN2.mono (fun x hx => by simp only [List.mem_append] at hx ⊢; rcases hx with h | h; exact .inl h; exact .inr (.inr h)), rfl⟩) | (refine f_retCT (F' := [(k, C [.int .u8 code, .int .i64 pos] 79)]) hl hh rfl rfl agg33 (by repeat (first | exact find_head | apply find_tail)) (arrL_length _ _) rfl (by repeat (first | exact keeps_nil | apply keeps_cons (by repeat (first | exact find_head | apply find_tail)) (by first  | rfl) | exact keeps_self | exact keeps_left | exact keeps_right | exact keeps_swap | apply keeps_mv)) ?_; exact .inr ⟨k, code, pos, hbad, rfl, rfl⟩)
  ·
    try simp only [List.cons_append, List.nil_append, List.append_nil] at hh
    have honeN := hN.one
    refine wl (wl_val hl rfl trivial (r_move hl rfl) ?_)
    clear hl a; intro a hl
    refine wl (wl_val hl rfl trivial (r_extract hl rfl (by simp only [List.getElem?_toArray, List.getElem?_cons_zero, List.getElem?_cons_succ]; rfl)) ?_)
    clear hl a; intro a hl
    refine wl (wl_val hl rfl trivial (r_extract hl rfl (by simp only [List.getElem?_toArray, List.getElem?_cons_zero, List.getElem?_cons_succ]; rfl)) ?_)
    clear hl a; intro a hl
    refine wl (wl_val hl rfl trivial (r_extract hl rfl (by simp only [List.getElem?_toArray, List.getElem?_cons_zero, List.getElem?_cons_succ]; rfl)) ?_)
    clear hl a; intro a hl
    refine wl (w_alloc hl hh rfl trivial zero33 rfl ?_)
    clear hl hh a w; intro k6 a w hl hh
    refine wl (w_storeA hl hh trivial agg33 rfl rfl (by repeat (first | exact find_head | apply find_tail)) (by rw [arrL_length]) (by rw [arrL_length]; omega) (by exact nv_one honeN) (by exact setw _ _ _) ?_)
    clear hh w; intro w hh
    refine wl (wl_val hl rfl trivial (r_assign hl rfl) ?_)
    clear hl a; intro a hl
    refine wl (wl_val hl rfl trivial (r_assign hl rfl) ?_)
    clear hl a; intro a hl
    refine w_nil ?_
    have hl2 := hl.add (t := 4) (hl.add (t := 6) (hl.add (t := 8) (hl.nil) rfl) rfl) rfl; clear hl; have hl := hl2; clear hl2
    refine then_normal ?_
    refine c_seq ?_
    refine c_region ?_
    refine wl (w_loadA hl hh rfl trivial agg33 rfl (by repeat (first | exact find_head | apply find_tail)) (by first | exact whole _ _ | exact ed_take _ _ _ _) (by rw [arrL_length]) ?_)
    clear hl a; intro a hl
    refine wl (wl_val hl rfl trivial (r_move hl rfl) ?_)
    clear hl a; intro a hl
    refine wl (w_storeA hl hh trivial agg33 rfl rfl (by repeat (first | exact find_head | apply find_tail)) (by rw [arrL_length]) (by rw [arrL_length]; omega) (by exact nv_one honeN) (by exact setw _ _ _) ?_)
    clear hh w; intro w hh
    refine wl (wl_val hl rfl trivial (r_assign hl rfl) ?_)
    clear hl a; intro a hl
    refine w_nil ?_
    have hl2 := hl.add (t := 4) (hl.add (t := 5) (hl.nil) rfl) rfl; clear hl; have hl := hl2; clear hl2
    refine then_normal ?_
    refine wp_ret ?_
    first | (refine f_retCT (F' := Eu ++ X) hl hh rfl rfl agg33 (by repeat (first | exact find_head | apply find_tail)) (arrL_length _ _) rfl (by repeat (first | exact keeps_nil | apply keeps_cons (by repeat (first | exact find_head | apply find_tail)) (by first  | rfl) | exact keeps_self | exact keeps_left | exact keeps_right | exact keeps_swap | apply keeps_mv)) ?_; exact .inl ⟨P', us, rv', av', hchk, hst, hP2, hN2.mono (fun x hx => by simp only [List.mem_append] at hx ⊢; rcases hx with h | h; exact .inl h; exact .inr (.inr h)), rfl⟩) | (refine f_retCT (F' := [(k, C [.int .u8 code, .int .i64 pos] 79)]) hl hh rfl rfl agg33 (by repeat (first | exact find_head | apply find_tail)) (arrL_length _ _) rfl (by repeat (first | exact keeps_nil | apply keeps_cons (by repeat (first | exact find_head | apply find_tail)) (by first  | rfl) | exact keeps_self | exact keeps_left | exact keeps_right | exact keeps_swap | apply keeps_mv)) ?_; exact .inr ⟨k, code, pos, hbad, rfl, rfl⟩)
end Go.Proofs.Qxb6500907a

import Derived.Test.Qxb6500908aGreatV11
import Derived.Test.Qxb6500908aGreatV3
namespace Go.Proofs.Qxb6500908aGreat
open Go.Eng
set_option linter.unusedVariables false
set_option linter.unusedSimpArgs false
theorem agg66 : aggOk Tryz.prog 66 64 = true := by kernel_rfl
theorem zero66 : zeroOk Tryz.prog 66 (.agg #[(.slice none 0 0), (.slice none 0 0), (.int .u16 0), (.slice none 0 0), (.slice none 0 0), (.int .u16 0), (.slice none 0 0), (.slice none 0 0), (.int .u16 0), (.slice none 0 0), (.slice none 0 0), (.int .u16 0), (.slice none 0 0), (.slice none 0 0), (.int .u16 0), (.slice none 0 0), (.slice none 0 0), (.int .u16 0), (.slice none 0 0), (.slice none 0 0), (.int .u16 0), (.slice none 0 0), (.slice none 0 0), (.int .u16 0), (.slice none 0 0), (.slice none 0 0), (.int .u16 0), (.slice none 0 0), (.slice none 0 0), (.int .u16 0), (.slice none 0 0), (.slice none 0 0), (.int .u16 0), (.slice none 0 0), (.slice none 0 0), (.int .u16 0), (.slice none 0 0), (.slice none 0 0), (.int .u16 0), (.slice none 0 0), (.slice none 0 0), (.int .u16 0), (.slice none 0 0), (.slice none 0 0), (.int .u16 0), (.slice none 0 0), (.slice none 0 0), (.int .u16 0), (.int .u16 0), (.int .u16 0), (.int .u16 0), (.int .u16 0), (.int .u16 0), (.int .u16 0), (.int .u16 0), (.int .u16 0), (.int .u16 0), (.int .u16 0), (.int .u16 0), (.int .u16 0), (.int .u16 0), (.int .u16 0), (.int .u16 0), (.int .u16 0)]) := by unfold zeroOk; kernel_rfl
/-! ## networks that are ours -/
structure OwD where
  d : DvV
  r : List (Nat × Obj)
  a : List (Nat × Obj)
def OwD.E (o : OwD) : List (Nat × Obj) := o.r ++ o.a
def OwD.ok (o : OwD) : Prop := DvS o.d o.r o.a
structure ClS where
  i : Nat
  os : List OwD
def mid (n : NtV) (s : ClS) : NtV := ⟨s.os.map OwD.d ++ n.dv.drop s.i, n.ln⟩
structure ClI (n : NtV) (s : ClS) : Prop where
  i : s.i ≤ 16
  l : s.os.length = s.i
  ok : ∀ o, o ∈ s.os → o.ok
  pl : s.os.map (fun o => o.d.pl) = (n.dv.take s.i).map DvV.pl
theorem mid_at {n : NtV} {s : ClS} (h : ClI n s) {d : DvV} (hd : n.dv[s.i]? = some d) : (mid n s).dv[s.i]? = some d := by
  show (s.os.map OwD.d ++ n.dv.drop s.i)[s.i]? = some d
  have hl : (s.os.map OwD.d).length = s.i := by rw [List.length_map]; exact h.l
  rw [List.getElem?_append_right (by omega), hl, Nat.sub_self, List.getElem?_drop, Nat.add_zero]; exact hd
theorem mid_set {n : NtV} {s : ClS} (h : ClI n s) {d d' : DvV} {r a : List (Nat × Obj)} (hd : n.dv[s.i]? = some d) : (⟨(mid n s).dv.set s.i d', (mid n s).ln⟩ : NtV) = mid n ⟨s.i + 1, s.os ++ [⟨d', r, a⟩]⟩ := by
  unfold mid
  simp only [NtV.mk.injEq, and_true]
  have hl : (s.os.map OwD.d).length = s.i := by rw [List.length_map]; exact h.l
  have hi : s.i < n.dv.length := (List.getElem?_eq_some_iff.1 hd).1
  rw [List.set_append_right _ _ (by omega), hl, Nat.sub_self, List.drop_eq_getElem_cons hi, List.set_cons_zero]
  simp
theorem mid_D {Z : List (Nat × Obj)} {n : NtV} {s : ClS} (hn : n.ok Z) (h : ClI n s) : NtD (mid n s) := by
  refine ⟨?_, hn.ll, hn.l⟩
  have := h.i
  show (s.os.map OwD.d ++ n.dv.drop s.i).length = 16
  rw [List.length_append, List.length_map, List.length_drop, h.l, hn.dl]; omega
theorem ClI.next {n : NtV} {s : ClS} (h : ClI n s) {d d' : DvV} {r a : List (Nat × Obj)} (hi : s.i < 16) (hd : n.dv[s.i]? = some d) (hp : d'.pl = d.pl) (ho : DvS d' r a) : ClI n ⟨s.i + 1, s.os ++ [⟨d', r, a⟩]⟩ := by
  refine ⟨hi, by simp only [List.length_append, List.length_singleton, h.l], fun o ho9 => ?_, ?_⟩
  · rcases List.mem_append.1 ho9 with h9 | h9
    · exact h.ok o h9
    · rw [List.mem_singleton.1 h9]; exact ho
  · simp only
    rw [List.map_append, h.pl, List.take_add_one, hd, List.map_append]
    simp [hp]
theorem mid_full {n : NtV} {s : ClS} (h : ClI n s) (hi : s.i = 16) (hd : n.dv.length = 16) : mid n s = ⟨s.os.map OwD.d, n.ln⟩ ∧ s.os.map (fun o => o.d.pl) = n.dv.map DvV.pl := by
  refine ⟨?_, ?_⟩
  · unfold mid; rw [hi, List.drop_of_length_le (by omega), List.append_nil]
  · rw [h.pl, hi, List.take_of_length_le (by omega)]
theorem oE_snoc (l : List OwD) (o : OwD) : (l ++ [o]).flatMap OwD.E = l.flatMap OwD.E ++ (o.r ++ o.a) := by rw [List.flatMap_append]; simp [OwD.E]
/-- a batch, plainly -/
def apP (n : NtP) : List Ch → Option NtP
  | [] => some n
  | c :: t => match stP n c with
    | none => none
    | some n' => apP n' t
structure ApS where
  i : Nat
  os : List OwD
  ln : List Int
def ApS.n (s : ApS) : NtV := ⟨s.os.map OwD.d, s.ln⟩
structure ApI (n0 : NtP) (cs : List Ch) (s : ApS) : Prop where
  i : s.i ≤ cs.length
  l : s.os.length = 16
  ll : s.ln.length = 16
  lb : ∀ x, x ∈ s.ln → 0 ≤ x ∧ x ≤ 65535
  ok : ∀ o, o ∈ s.os → o.ok
  e : apP n0 cs = apP s.n.pl (cs.drop s.i)
theorem ApI.D {n0 : NtP} {cs : List Ch} {s : ApS} (h : ApI n0 cs s) : NtD s.n := ⟨by show (s.os.map OwD.d).length = 16; rw [List.length_map]; exact h.l, h.ll, h.lb⟩
theorem apP_go {n : NtP} {cs : List Ch} {i : Nat} {c : Ch} {n' : NtP} (h : cs[i]? = some c) (hs : stP n c = some n') : apP n (cs.drop i) = apP n' (cs.drop (i + 1)) := by
  obtain ⟨hi, rfl⟩ := List.getElem?_eq_some_iff.1 h
  rw [List.drop_eq_getElem_cons hi]; simp only [apP, hs]
theorem apP_no {n : NtP} {cs : List Ch} {i : Nat} {c : Ch} (h : cs[i]? = some c) (hs : stP n c = none) : apP n (cs.drop i) = none := by
  obtain ⟨hi, rfl⟩ := List.getElem?_eq_some_iff.1 h
  rw [List.drop_eq_getElem_cons hi]; simp only [apP, hs]
theorem os_split {l : List OwD} {i : Nat} {o : OwD} (h : l[i]? = some o) : l.flatMap OwD.E = (l.take i).flatMap OwD.E ++ ((o.r ++ o.a) ++ (l.drop (i + 1)).flatMap OwD.E) := by
  obtain ⟨hi, rfl⟩ := List.getElem?_eq_some_iff.1 h
  conv => lhs; rw [← List.take_append_drop i l, List.drop_eq_getElem_cons hi, List.flatMap_append, List.flatMap_cons]
  rfl
theorem os_set {l : List OwD} {i : Nat} {o o' : OwD} (h : l[i]? = some o) : (l.set i o').flatMap OwD.E = (l.take i).flatMap OwD.E ++ ((o'.r ++ o'.a) ++ (l.drop (i + 1)).flatMap OwD.E) := by
  obtain ⟨hi, rfl⟩ := List.getElem?_eq_some_iff.1 h
  rw [List.set_eq_take_append_cons_drop, if_pos hi, List.flatMap_append, List.flatMap_cons]
  rfl
theorem ApI.next {n0 : NtP} {cs : List Ch} {s : ApS} (h : ApI n0 cs s) {c : Ch} (hc : cs[s.i]? = some c) {i : Nat} {d' : DvV} {ln' : List Int} {r a : List (Nat × Obj)} (hs : stP s.n.pl c = some (NtV.pl ⟨s.n.dv.set i d', ln'⟩)) (hl : ln'.length = 16) (hb : ∀ x, x ∈ ln' → 0 ≤ x ∧ x ≤ 65535) (ho : DvS d' r a) : ApI n0 cs ⟨s.i + 1, s.os.set i ⟨d', r, a⟩, ln'⟩ := by
  have hi := (List.getElem?_eq_some_iff.1 hc).1
  refine ⟨hi, by simp only [List.length_set]; exact h.l, hl, hb, fun o h9 => ?_, ?_⟩
  · rcases List.mem_or_eq_of_mem_set h9 with h8 | h8
    · exact h.ok o h8
    · rw [h8]; exact ho
  · rw [h.e, apP_go hc hs]
    congr 1
    unfold ApS.n NtV.pl
    simp only [List.map_set, List.map_map]
theorem ApI.fin {n0 : NtP} {cs : List Ch} {s : ApS} (h : ApI n0 cs s) (hi : s.i = cs.length) : apP n0 cs = some s.n.pl := by
  rw [h.e, hi, List.drop_length]; rfl
theorem ApI.net {n0 : NtP} {cs : List Ch} {s : ApS} (h : ApI n0 cs s) : s.n.ok (s.os.flatMap OwD.E) := by
  refine ⟨h.D.dl, h.ll, fun d hd => ?_, h.lb⟩
  obtain ⟨o, ho, rfl⟩ := List.mem_map.1 (show d ∈ s.os.map OwD.d from hd)
  exact (h.ok o ho).ok (fun x hx => List.mem_flatMap.2 ⟨o, ho, List.mem_append_left _ hx⟩) (fun x hx => List.mem_flatMap.2 ⟨o, ho, List.mem_append_right _ hx⟩)
theorem chs_fl (cs : List Ch) : chs cs = fl Ch.vals cs := rfl
theorem chv_len (c : Ch) : c.vals.length = 12 := rfl


attribute [local irreducible] NtV.c OwD.E

set_option maxHeartbeats 4000000 in
theorem clone_spec (Z : List (Nat × Obj)) (n : NtV) (hn : n.ok Z) : SpK Tryz.prog 70 #[.agg ⟨n.c⟩] (Mem Z) [] (fun v F' => ∃ os : List OwD, os.length = 16 ∧ (∀ o, o ∈ os → o.ok) ∧ os.map (fun o => o.d.pl) = n.dv.map DvV.pl ∧ v = .agg ⟨NtV.c ⟨os.map OwD.d, n.ln⟩⟩ ∧ F' = os.flatMap OwD.E) := by
  refine f_enter (args := [.agg ⟨n.c⟩]) Tryz.func70 rfl Tryz.ntmps70 rfl ?_
  intro w0 w a hpre hl hh
  have hnl := NtV.len hn
  simp only [slotsFrom, Nat.reduceAdd] at hl
  refine c_seq ?_
  refine c_region ?_
  refine wl (w_box hl hh rfl trivial rfl rfl ?_)
  clear hl hh a w; intro k1 a w hl hh
  refine wl (w_alloc hl hh rfl trivial zero66 rfl ?_)
  clear hl hh a w; intro k2 a w hl hh
  refine w_nil ?_
  have hl2 := hl.add (t := 1) (hl.add (t := 2) (hl.nil) rfl) rfl; clear hl; have hl := hl2; clear hl2
  refine then_normal ?_
  refine c_seq ?_
  refine c_seq ?_
  refine c_region ?_
  refine wl (wl_val hl rfl trivial (r_move hl rfl) ?_)
  clear hl a; intro a hl
  refine w_nil ?_
  have hl2 := hl.add (t := 1) (hl.add (t := 2) (hl.add (t := 4) (hl.nil) rfl) rfl) rfl; clear hl; have hl := hl2; clear hl2
  refine then_normal ?_
  refine wp_block ?_
  obtain ⟨KS0, hKS0, hk⟩ := (hl.add (t := 1) (hl.add (t := 2) (hl.nil) rfl) rfl).name
  obtain ⟨HS0, hHS0, hh2⟩ := hh.nameT (A := [(k1, C n.c 66)]) (U := []) (keeps_cons (b := k1) (o' := C n.c 66) (by repeat (first | exact find_head | apply find_tail | apply find_skip)) (by first | rfl) ((by repeat (first | exact keeps_nil | exact keeps_self | exact keeps_left | apply keeps_app | apply keeps_mv | apply keeps_skip))))
  refine c_loop (α := ClS) (fun s => 16 - s.i) (fun s a w => (ClI n s) ∧ Sl 29 ([(4, .int .i64 (s.i : Int))] ++ KS0) a ∧ Has _ w0 ([(k1, C (mid n s).c 66)] ++ (HS0 ++ (s.os.flatMap OwD.E))) w) ⟨0, []⟩ ⟨⟨Nat.zero_le _, rfl, fun o h => (by cases h), rfl⟩, hl.addE (t := 4) (hk) rfl (by first | rfl), (by rw [show (mid n ⟨0, []⟩) = n from rfl]; exact hh2)⟩ ?_
  clear hk hh2 hl hh a w
  intro s a w hI
  obtain ⟨hI, hl, hh⟩ := hI
  subst hKS0; subst hHS0
  simp only [List.cons_append, List.nil_append, List.append_nil, List.append_assoc] at hl hh
  have hIi := hI.i
  refine c_seq ?_
  refine c_region ?_
  refine wl (wl_val hl rfl trivial (r_lss hl rfl rfl) ?_)
  clear hl a; intro a hl
  refine w_nil ?_
  have hl2 := hl.add (t := 1) (hl.add (t := 2) (hl.add (t := 4) (hl.add (t := 5) (hl.nil) rfl) rfl) rfl) rfl; clear hl; have hl := hl2; clear hl2
  refine then_normal ?_
  refine c_seq ?_
  refine c_cond hl rfl ?_ ?_
  · intro hc0
    try simp only [decide_eq_true_eq, decide_eq_false_iff_not, Bool.not_eq_true', Bool.not_eq_false', Bool.not_eq_true, Bool.not_eq_false, Bool.and_eq_true, Bool.or_eq_true, Bool.and_eq_false_iff, Bool.or_eq_false_iff, Bool.not_not, ne_eq, Int.not_lt, Int.not_le, Decidable.not_not, beq_iff_eq, bne_iff_ne] at hc0
    obtain ⟨d, hd⟩ : ∃ d, n.dv[s.i]? = some d := ⟨_, List.getElem?_eq_getElem (by rw [hn.dl]; omega)⟩
    have hdo := hn.d d (List.mem_of_getElem? hd)
    obtain ⟨RE, hRR, hRZ⟩ := hdo.r
    obtain ⟨AE, hAR, hAZ⟩ := hdo.a
    have hdn := hdo.n
    have hmd := mid_D hn hI
    have hml := hmd.len
    have hm0 := mid_at hI hd
    have hk0 : (mid n s).c[s.i * 3 + 0]? = some (.slice d.rp d.rs.length d.rc) := NtD.cell hm0 rfl
    refine wp_skip ?_
    refine then_normal ?_
    refine c_seq ?_
    refine wp_block ?_
    refine c_seq ?_
    refine c_region ?_
    refine wl (wl_val hl rfl trivial (r_move hl rfl) ?_)
    clear hl a; intro a hl
    refine wl (wl_val hl rfl trivial (r_assign hl rfl) ?_)
    clear hl a; intro a hl
    refine w_nil ?_
    have hl2 := hl.add (t := 1) (hl.add (t := 2) (hl.add (t := 3) (hl.add (t := 4) (hl.nil) rfl) rfl) rfl) rfl; clear hl; have hl := hl2; clear hl2
    refine then_normal ?_
    refine c_seq ?_
    refine c_region ?_
    refine wl (wl_val hl rfl trivial (r_move hl rfl) ?_)
    clear hl a; intro a hl
    refine wl (wl_val hl rfl trivial (r_move hl rfl) ?_)
    clear hl a; intro a hl
    refine wl (wl_val hl rfl trivial (r_field hl rfl fld66_0) ?_)
    clear hl a; intro a hl
    refine wl (wl_val hl rfl trivial (r_indexA hl rfl rfl arr63 (by omega) (by omega) (by first | (simp only [Int.reduceToNat]; rfl) | exact toNat_add1 _ | exact toNat_add2 _ _ | exact toNat_emod _ _ | exact Int.toNat_natCast _ | rfl)) ?_)
    clear hl a; intro a hl
    refine wl (wl_val hl rfl trivial (r_field hl rfl fld62_0) ?_)
    clear hl a; intro a hl
    refine wl (w_load hl hh rfl trivial one58 rfl (by repeat (first | exact find_head | apply find_tail | apply find_skip)) (by first | (simp only [Nat.zero_add]; exact hk0) | (simp only [Nat.zero_add]; exact hk1) | rfl) ?_)
    clear hl a; intro a hl
    refine wl (w_appendCopy hl hh rfl trivial app58 rfl rfl rfl hRR (mem_keep hh (hRZ.mem hpre)) (fl_all rtc_one _) (by omega) (by omega) (by decide) ?_)
    clear hl hh a w; intro rv2 E2 a w hR2 hl hh
    have hh3 := hh.comm; clear hh; have hh := hh3; clear hh3
    try simp only [List.cons_append, List.nil_append, List.append_assoc, List.append_nil] at hh
    obtain ⟨p6, c6, hv6⟩ := row_val hR2
    rw [hv6] at hl hR2
    refine wl (wl_val hl rfl trivial (r_field hl rfl fld66_0) ?_)
    clear hl a; intro a hl
    refine wl (wl_val hl rfl trivial (r_indexA hl rfl rfl arr63 (by omega) (by omega) (by first | (simp only [Int.reduceToNat]; rfl) | exact toNat_add1 _ | exact toNat_add2 _ _ | exact toNat_emod _ _ | exact Int.toNat_natCast _ | rfl)) ?_)
    clear hl a; intro a hl
    refine wl (wl_val hl rfl trivial (r_field hl rfl fld62_0) ?_)
    clear hl a; intro a hl
    refine wl (w_store hl hh trivial one58 rfl rfl (by repeat (first | exact find_head | apply find_tail | apply find_skip)) (by first | (simp; done) | (simp; omega) | (simp only [List.length_cons, List.length_nil]; omega) | omega) (by first | rfl | assumption | (apply Row.one; assumption)) (by first | (simp only [Nat.zero_add]; exact NtD.set (d' := ⟨d.rs, p6, c6, d.al, d.ap, d.ac, d.f⟩) hm0 (by omega) rfl) | (simp only [Nat.zero_add]; rw [NtD.set (d' := ⟨d.rs, p6, c6, d.al, p7, c7, d.f⟩) hm3 (by omega) rfl, List.set_set]) | (simp only [setL, List.getElem?_cons_zero, List.getElem?_cons_succ, Value.cells, List.take_zero, List.take_succ_cons, List.take_nil, List.drop_zero, List.drop_succ_cons, List.drop_nil, List.length_cons, List.length_nil, List.cons_append, List.nil_append, List.append_nil, Nat.zero_add, Nat.add_zero, Nat.reduceAdd, Nat.reduceBEq, Nat.reduceEqDiff, Nat.ble, BEq.rfl, Bool.and_true, Bool.and_self, cond_true, beq_self_eq_true]; rfl)) ?_)
    clear hh w; intro w hh
    refine w_nil ?_
    have hl2 := hl.add (t := 1) (hl.add (t := 2) (hl.add (t := 3) (hl.add (t := 4) (hl.nil) rfl) rfl) rfl) rfl; clear hl; have hl := hl2; clear hl2
    have hm3 : ((mid n s).dv.set s.i ⟨d.rs, p6, c6, d.al, d.ap, d.ac, d.f⟩)[s.i]? = some ⟨d.rs, p6, c6, d.al, d.ap, d.ac, d.f⟩ := by rw [List.getElem?_set_self (by rw [hmd.dl]; omega)]
    have hk1 : (NtV.c ⟨(mid n s).dv.set s.i ⟨d.rs, p6, c6, d.al, d.ap, d.ac, d.f⟩, (mid n s).ln⟩)[s.i * 3 + 1]? = some (.slice d.ap d.al.length d.ac) := NtD.cell hm3 rfl
    have hml2 : (NtV.c ⟨(mid n s).dv.set s.i ⟨d.rs, p6, c6, d.al, d.ap, d.ac, d.f⟩, (mid n s).ln⟩).length = 64 := NtD.len ⟨by simp only [List.length_set]; exact hmd.dl, hmd.ll, hmd.l⟩
    refine then_normal ?_
    refine c_region ?_
    refine wl (wl_val hl rfl trivial (r_move hl rfl) ?_)
    clear hl a; intro a hl
    refine wl (wl_val hl rfl trivial (r_move hl rfl) ?_)
    clear hl a; intro a hl
    refine wl (wl_val hl rfl trivial (r_field hl rfl fld66_0) ?_)
    clear hl a; intro a hl
    refine wl (wl_val hl rfl trivial (r_indexA hl rfl rfl arr63 (by omega) (by omega) (by first | (simp only [Int.reduceToNat]; rfl) | exact toNat_add1 _ | exact toNat_add2 _ _ | exact toNat_emod _ _ | exact Int.toNat_natCast _ | rfl)) ?_)
    clear hl a; intro a hl
    refine wl (wl_val hl rfl trivial (r_field hl rfl fld62_1) ?_)
    clear hl a; intro a hl
    refine wl (w_load hl hh rfl trivial one59 rfl (by repeat (first | exact find_head | apply find_tail | apply find_skip)) (by first | (simp only [Nat.zero_add]; exact hk0) | (simp only [Nat.zero_add]; exact hk1) | rfl) ?_)
    clear hl a; intro a hl
    refine wl (w_appendCopy hl hh rfl trivial app59 rfl rfl rfl hAR (mem_keep hh (hAZ.mem hpre)) (fl_all ruc_one _) (by omega) (by omega) (by decide) ?_)
    clear hl hh a w; intro rv3 E3 a w hR3 hl hh
    have hh3 := hh.comm; clear hh; have hh := hh3; clear hh3
    try simp only [List.cons_append, List.nil_append, List.append_assoc, List.append_nil] at hh
    obtain ⟨p7, c7, hv7⟩ := row_val hR3
    rw [hv7] at hl hR3
    refine wl (wl_val hl rfl trivial (r_field hl rfl fld66_0) ?_)
    clear hl a; intro a hl
    refine wl (wl_val hl rfl trivial (r_indexA hl rfl rfl arr63 (by omega) (by omega) (by first | (simp only [Int.reduceToNat]; rfl) | exact toNat_add1 _ | exact toNat_add2 _ _ | exact toNat_emod _ _ | exact Int.toNat_natCast _ | rfl)) ?_)
    clear hl a; intro a hl
    refine wl (wl_val hl rfl trivial (r_field hl rfl fld62_1) ?_)
    clear hl a; intro a hl
    refine wl (w_store hl hh trivial one59 rfl rfl (by repeat (first | exact find_head | apply find_tail | apply find_skip)) (by first | (simp; done) | (simp; omega) | (simp only [List.length_cons, List.length_nil]; omega) | omega) (by first | rfl | assumption | (apply Row.one; assumption)) (by first | (simp only [Nat.zero_add]; exact NtD.set (d' := ⟨d.rs, p6, c6, d.al, d.ap, d.ac, d.f⟩) hm0 (by omega) rfl) | (simp only [Nat.zero_add]; rw [NtD.set (d' := ⟨d.rs, p6, c6, d.al, p7, c7, d.f⟩) hm3 (by omega) rfl, List.set_set]) | (simp only [setL, List.getElem?_cons_zero, List.getElem?_cons_succ, Value.cells, List.take_zero, List.take_succ_cons, List.take_nil, List.drop_zero, List.drop_succ_cons, List.drop_nil, List.length_cons, List.length_nil, List.cons_append, List.nil_append, List.append_nil, Nat.zero_add, Nat.add_zero, Nat.reduceAdd, Nat.reduceBEq, Nat.reduceEqDiff, Nat.ble, BEq.rfl, Bool.and_true, Bool.and_self, cond_true, beq_self_eq_true]; rfl)) ?_)
    clear hh w; intro w hh
    refine w_nil ?_
    have hl2 := hl.add (t := 1) (hl.add (t := 2) (hl.add (t := 4) (hl.nil) rfl) rfl) rfl; clear hl; have hl := hl2; clear hl2
    rw [mid_set hI (r := E2) (a := E3) hd] at hh
    refine blk_normal ?_
    refine then_normal ?_
    refine c_region ?_
    first | refine wl (wl_val hl rfl trivial (r_add hl rfl rfl (by simp only [Fits]; omega)) ?_) | refine wl (wl_val hl rfl trivial (r_addW hl rfl rfl) ?_)
    clear hl a; intro a hl
    refine wl (wl_val hl rfl trivial (r_move hl rfl) ?_)
    clear hl a; intro a hl
    refine w_nil ?_
    have hl2 := hl.add (t := 1) (hl.add (t := 2) (hl.add (t := 4) (hl.nil) rfl) rfl) rfl; clear hl; have hl := hl2; clear hl2
    refine then_normal ?_
    refine ⟨⟨s.i + 1, s.os ++ [⟨⟨d.rs, p6, c6, d.al, p7, c7, d.f⟩, E2, E3⟩]⟩, (by simp only; omega), hI.next (d' := ⟨d.rs, p6, c6, d.al, p7, c7, d.f⟩) (by omega) hd rfl ⟨hR2, hR3, hdo.rb, hdo.ab, hdo.f, hdo.n⟩, hl.addE (t := 4) (hl.addE (t := 1) (hl.addE (t := 2) (hl.nil) rfl (by first | rfl | exact congrArg (Value.int .i64) (show (s.i : Int) + 1 = ((s.i + 1 : Nat) : Int) by omega))) rfl (by first | rfl | exact congrArg (Value.int .i64) (show (s.i : Int) + 1 = ((s.i + 1 : Nat) : Int) by omega))) rfl (by first | rfl | exact congrArg (Value.int .i64) (show (s.i : Int) + 1 = ((s.i + 1 : Nat) : Int) by omega)), (by simp only [oE_snoc, List.append_assoc]; exact hh.keep (by repeat (first | exact keeps_nil | apply keeps_cons (by repeat (first | exact find_head | apply find_tail | apply find_skip)) (by first  | rfl) | exact keeps_self | exact keeps_left | apply keeps_app | apply keeps_mv | apply keeps_skip)))⟩
  · intro hc0
    try simp only [decide_eq_true_eq, decide_eq_false_iff_not, Bool.not_eq_true', Bool.not_eq_false', Bool.not_eq_true, Bool.not_eq_false, Bool.and_eq_true, Bool.or_eq_true, Bool.and_eq_false_iff, Bool.or_eq_false_iff, Bool.not_not, ne_eq, Int.not_lt, Int.not_le, Decidable.not_not, beq_iff_eq, bne_iff_ne] at hc0
    have hie : s.i = 16 := by omega
    obtain ⟨hm1, hm2⟩ := mid_full hI hie hn.dl
    rw [hm1] at hh
    have hD9 : NtD ⟨s.os.map OwD.d, n.ln⟩ := by rw [← hm1]; exact mid_D hn hI
    have hwl := hD9.whole
    refine wp_exit ?_
    refine then_exit ?_
    refine then_exit ?_
    refine blk_exit ?_
    refine then_normal ?_
    refine c_seq ?_
    refine c_region ?_
    refine wl (w_loadA hl hh rfl trivial agg66 rfl (by repeat (first | exact find_head | apply find_tail | apply find_skip)) (by exact hwl) (by exact hD9.len) ?_)
    clear hl a; intro a hl
    refine wl (w_storeA hl hh trivial agg66 rfl rfl (by repeat (first | exact find_head | apply find_tail | apply find_skip)) (by exact hD9.len) (by exact Nat.le_refl 64) (by exact NtV.one) (by exact setL_all hD9.len.symm) ?_)
    clear hh w; intro w hh
    refine w_nil ?_
    have hl2 := hl.add (t := 2) (hl.nil) rfl; clear hl; have hl := hl2; clear hl2
    refine then_normal ?_
    refine wp_ret ?_
    refine f_retC (F' := s.os.flatMap OwD.E) hl hh rfl rfl agg66 (by repeat (first | exact find_head | apply find_tail | apply find_skip)) (by first | rfl | exact arrL_length _ _ | exact hD9.len | (simp; done)) (by repeat (first | exact keeps_nil | apply keeps_cons (by repeat (first | exact find_head | apply find_tail | apply find_skip)) (by first  | rfl) | exact keeps_self | exact keeps_left | apply keeps_app | apply keeps_mv | apply keeps_skip)) ?_
    exact ⟨s.os, by rw [hI.l, hie], hI.ok, hm2, rfl, rfl⟩
end Go.Proofs.Qxb6500908aGreat

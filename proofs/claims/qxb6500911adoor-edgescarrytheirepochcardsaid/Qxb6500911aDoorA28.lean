import Derived.Test.Qxb6500911aDoorA27
namespace Go.Proofs.Qxb6500911aDoor
open Go.Eng
set_option linter.unusedVariables false
set_option linter.unusedSimpArgs false
theorem cal28 : callable Tryd.prog 28 = true := by kernel_rfl
theorem fld64_0 : fieldOk Tryd.prog 64 0 0 = true := by kernel_rfl
theorem fld64_2 : fieldOk Tryd.prog 64 2 2 = true := by kernel_rfl
theorem fld64_3 : fieldOk Tryd.prog 64 3 3 = true := by kernel_rfl
theorem fld64_1 : fieldOk Tryd.prog 64 1 1 = true := by kernel_rfl
theorem cal15 : callable Tryd.prog 15 = true := by kernel_rfl
/-! ## the union of the shards -/
theorem wf_fold {tb : Tab} {r t : Nat} : ∀ (l : List Rq) (g : Nat → BitVec 16), (l.foldl (wfS tb r) g) t = if l.any (fun x => x.t == t) then holdB tb r &&& ~~~ bitB t else g t
  | [], g => rfl
  | x :: l, g => by
    rw [List.foldl_cons, wf_fold l]
    simp only [List.any_cons, Bool.or_eq_true, beq_iff_eq]
    by_cases c : l.any (fun x => x.t == t) = true
    · rw [if_pos c, if_pos (.inr c)]
    · rw [if_neg c]
      unfold wfS
      by_cases c2 : t = x.t
      · rw [if_pos c2, if_pos (.inl c2.symm), c2]
      · rw [if_neg c2, if_neg (fun h => h.elim (fun e => c2 e.symm) c)]
theorem wf_wait {tb : Tab} (hI : TI tb) (t : Nat) : ∀ n, n ≤ 20 → wfN tb n t = match waitOn tb t n with | some r => holdB tb r &&& ~~~ bitB t | none => 0#16
  | 0, _ => rfl
  | n + 1, hn => by
    rw [wfN, wf_fold, wf_wait hI t n (by omega), waitOn]
    by_cases c : (tb.q n).any (fun x => x.t == t) = true
    · rw [if_pos c]
      cases hw : waitOn tb t n with
      | none => simp only [c, if_true]
      | some r =>
        exfalso
        obtain ⟨hr, x, hx, hxt⟩ := wait_mem hw
        obtain ⟨y, hy, hyt⟩ := List.any_eq_true.1 c
        have := hI.dis r n (by omega) (by omega) x hx y hy (by rw [hxt]; exact (beq_iff_eq.1 hyt).symm)
        omega
    · rw [if_neg c]
      cases hw : waitOn tb t n with
      | none => simp only [c]; rfl
      | some r => rfl
theorem wf_wfg {tb : Tab} (hI : TI tb) (t : Nat) : wfN tb 20 t = wfg tb t := wf_wait hI t 20 (Nat.le_refl _)
def unS (rel : Nat → BitVec 16) (y : Eg) : Nat → BitVec 16 := if 0 < y.n then (fun j => if j = y.w then rel y.w ||| bitB y.h else rel j) else rel
def unL (es : List Eg) (rel : Nat → BitVec 16) : Nat → BitVec 16 := es.foldl unS rel
def unC (g : Gs) : Nat → (Nat → BitVec 16)
  | 0 => fun _ => 0#16
  | c + 1 => unL (edN (wsK g.ws c) 16) (unC g c)
theorem unL_get {t k : Nat} (hk : k < 16) : ∀ (l : List Eg) (rel : Nat → BitVec 16), (unL l rel t).getLsbD k = true ↔ ((rel t).getLsbD k = true ∨ ∃ y, y ∈ l ∧ y.w = t ∧ 0 < y.n ∧ y.h = k)
  | [], rel => ⟨fun h => .inl h, fun h => by rcases h with h | ⟨y, hy, _⟩; exact h; cases hy⟩
  | x :: l, rel => by
    have ih := unL_get (t := t) hk l (unS rel x)
    unfold unL at ih ⊢
    rw [List.foldl_cons, ih]
    constructor
    · rintro (h | ⟨y, hy, h⟩)
      · unfold unS at h
        split at h
        · rename_i c
          simp only at h
          split at h
          · rename_i c2
            rw [BitVec.getLsbD_or, bit_get hk, Bool.or_eq_true, decide_eq_true_eq] at h
            rcases h with h | h
            · exact .inl (c2 ▸ h)
            · exact .inr ⟨x, .head _, c2.symm, c, h⟩
          · exact .inl h
        · exact .inl h
      · exact .inr ⟨y, .tail _ hy, h⟩
    · rintro (h | ⟨y, hy, h1, h2, h3⟩)
      · left
        unfold unS
        split
        · simp only
          split
          · rename_i c2
            rw [BitVec.getLsbD_or, ← c2, h]; rfl
          · exact h
        · exact h
      · rcases List.mem_cons.1 hy with rfl | hy
        · left
          unfold unS
          rw [if_pos h2]
          rw [if_pos h1.symm, BitVec.getLsbD_or, bit_get hk, decide_eq_true h3, Bool.or_true]
        · exact .inr ⟨y, hy, h1, h2, h3⟩
theorem unC_get {g : Gs} {t k : Nat} (hk : k < 16) : ∀ n, (unC g n t).getLsbD k = true ↔ ∃ c, c < n ∧ ∃ y, y ∈ edN (wsK g.ws c) 16 ∧ y.w = t ∧ 0 < y.n ∧ y.h = k
  | 0 => ⟨fun h => by simp [unC] at h, fun ⟨c, hc, _⟩ => absurd hc (Nat.not_lt_zero _)⟩
  | n + 1 => by
    rw [unC, unL_get hk, unC_get hk n]
    constructor
    · rintro (⟨c, hc, h⟩ | h)
      · exact ⟨c, by omega, h⟩
      · exact ⟨n, by omega, h⟩
    · rintro ⟨c, hc, h⟩
      by_cases e : c = n
      · subst e; exact .inr h
      · exact .inl ⟨c, by omega, h⟩
/-- the edges of a quiet system -/
theorem quiet_ed {B Q : Int} {g : Gs} (hG : GI B Q g) (hM : MIall g) (hq : quietB g.bx 16 = true) {c : Nat} {y : Eg} (hy : y ∈ edN (wsK g.ws c) 16) : y.w < 16 ∧ y.h < 16 ∧ y.w % 4 = c ∧ y.n = 1 ∧ y.e = g.ep y.w := by
  obtain ⟨h1, x, hx, h2, h3, h4, h5⟩ := edN_mem hy
  unfold wsK at hx
  split at hx
  · rename_i hc
    have hw := (quiet_ws hG hM hq h1).2 x.e y.h
    rw [nt_of_mem (hG.ok y.w h1).srt hx] at hw
    by_cases e : x.e = g.ep y.w
    · rw [if_pos e] at hw
      refine ⟨h1, h2, hc, ?_, h3.trans e⟩
      rw [h4, hw]
      unfold b01 at hw ⊢
      split
      · rfl
      · rename_i c9; rw [if_neg c9] at hw; exact absurd hw h5
    · rw [if_neg e] at hw; exact absurd hw h5
  · cases hx
theorem un_eq {B Q : Int} {g : Gs} (hG : GI B Q g) (hM : MIall g) (hq : quietB g.bx 16 = true) : mskA (unC g 4) = mskA (wfN g.tb 20) := by
  unfold mskA
  refine arrL_congr fun t ht => ?_
  have : unC g 4 t = wfN g.tb 20 t := by
    rw [wf_wfg hG.ti]
    apply BitVec.eq_of_getLsbD_eq
    intro k hk
    rw [Bool.eq_iff_iff, unC_get hk 4]
    have h1 := prF_get' (t := t) (e := g.ep t) hk (edN (wsK g.ws (t % 4)) 16) 0#16
    have h2 := prF_eq (g := g) (t := t) ht (e := g.ep t) (hG.ok t ht)
    unfold prF at h2
    rw [h2, maskN_get (Nat.le_refl _), decide_eq_true_eq, (quiet_ws hG hM hq ht).2, if_pos rfl] at h1
    have h3 : (0 < b01 ((wfg g.tb t).getLsbD k)) ↔ (wfg g.tb t).getLsbD k = true := by
      unfold b01; split <;> simp_all
    rw [h3] at h1
    constructor
    · rintro ⟨c, hc, y, hy, h4, h5, h6⟩
      obtain ⟨_, _, e1, _, e2⟩ := quiet_ed hG hM hq hy
      exact (h1.2 (.inr ⟨y, by rw [← h4, e1]; exact hy, h4, by rw [e2, h4], h5, h6⟩)).2
    · intro h
      rcases h1.1 ⟨hk, h⟩ with h4 | ⟨y, hy, h4, h5, h6, h7⟩
      · simp at h4
      · exact ⟨t % 4, by omega, y, hy, h4, h6, h7⟩
  rw [this]
theorem sn_ep1 {g : Gs} {ev bv : Nat → Value} {t : Nat} (ht : t < 16) : (snC g ev bv)[0 + 0 + t * 1]? = some (.int .u64 (g.ep t)) := by
  unfold snC
  rw [arrL_get (by omega)]
  unfold stV
  rw [if_pos (by omega)]
  simp
structure UZ where
  rel : Nat → BitVec 16
  i : Nat
theorem un_T {es : List Eg} {j : Nat} {y : Eg} {rel : Nat → BitVec 16} (hy : es[j]? = some y) (h : 0 < y.n) : C (mskA (fun k => if k = y.w then unL (es.take j) rel y.w ||| bitB y.h else unL (es.take j) rel k)) 40 = C (mskA (unL (es.take (j + 1)) rel)) 40 := by
  unfold unL
  rw [List.take_add_one, hy, List.foldl_append]
  simp only [Option.toList, List.foldl_cons, List.foldl_nil]
  unfold unS
  rw [if_pos h]
theorem un_F {es : List Eg} {j : Nat} {y : Eg} {rel : Nat → BitVec 16} (hy : es[j]? = some y) (h : ¬ 0 < y.n) : C (mskA (unL (es.take j) rel)) 40 = C (mskA (unL (es.take (j + 1)) rel)) 40 := by
  unfold unL
  rw [List.take_add_one, hy, List.foldl_append]
  simp only [Option.toList, List.foldl_cons, List.foldl_nil]
  rw [show ∀ r, unS r y = r from fun r => by unfold unS; rw [if_neg h]]
theorem un_end {es : List Eg} {j : Nat} {rel : Nat → BitVec 16} (h : es.length ≤ j) : C (mskA (unL (es.take j) rel)) 40 = C (mskA (unL es rel)) 40 := by rw [List.take_of_length_le h]
theorem msk_at {f : Nat → BitVec 16} {t : Nat} (ht : t < 16) : (mskA f)[0 + t * 1]? = some (.int .u16 (mi (f t))) := by
  unfold mskA; rw [arrL_get (by omega)]; simp
theorem find_app {A B G : List (Nat × Obj)} {b : Nat} {o : Obj} (h : Find A b o G) : Find (A ++ B) b o (G ++ B) := ⟨h.perm.append_right B⟩
theorem find_fam {E : Nat → List (Nat × Obj)} {n c b : Nat} {o : Obj} (hc : c < n) (he : E c = [(b, o)]) : Find (fam E n) b o (famX E c n) := ⟨by have := fam_perm (E := E) hc; rw [he] at this; exact this⟩


set_option maxHeartbeats 4000000 in
theorem union_spec {g : Gs} {M : Mm} (hS : SysF g M) (bg : Nat) (B Q : Int) (hq : BQ B Q) (hG : GI B Q g) : SpK Tryd.prog 15 #[.pointer (some ⟨bg, 0, none⟩)] (Mem (sysL bg M)) [] (fun v F' => v = .agg ⟨mskA (unC g 4)⟩ ∧ F' = []) := by
  refine f_enter (args := [.pointer (some ⟨bg, 0, none⟩)]) Tryd.func15 rfl Tryd.ntmps15 rfl ?_
  intro w0 w a hpre hl hh
  have hmG := hpre _ _ (List.mem_append_left _ (List.mem_cons_self ..))
  have hmF := (mem_app hpre).1
  simp only [slotsFrom, Nat.reduceAdd] at hl
  refine c_seq ?_
  refine c_region ?_
  refine wl (w_alloc hl hh rfl trivial zero40 rfl ?_)
  clear hl hh a w; intro k2 a w hl hh
  refine w_nil ?_
  have hl2 := hl.add (t := 0) (hl.add (t := 2) (hl.nil) rfl) rfl; clear hl; have hl := hl2; clear hl2
  refine then_normal ?_
  refine c_seq ?_
  refine c_region ?_
  refine wl (w_alloc hl hh rfl trivial zero40 rfl ?_)
  clear hl hh a w; intro k3 a w hl hh
  refine w_nil ?_
  have hl2 := hl.add (t := 0) (hl.add (t := 2) (hl.add (t := 3) (hl.nil) rfl) rfl) rfl; clear hl; have hl := hl2; clear hl2
  refine then_normal ?_
  refine c_seq ?_
  refine c_seq ?_
  refine c_region ?_
  refine wl (wl_val hl rfl trivial (r_move hl rfl) ?_)
  clear hl a; intro a hl
  refine w_nil ?_
  have hl2 := hl.add (t := 0) (hl.add (t := 2) (hl.add (t := 3) (hl.add (t := 7) (hl.nil) rfl) rfl) rfl) rfl; clear hl; have hl := hl2; clear hl2
  refine then_normal ?_
  refine wp_block ?_
  obtain ⟨KS0, hKS0, hk⟩ := (hl.add (t := 0) (hl.add (t := 2) (hl.add (t := 3) (hl.nil) rfl) rfl) rfl).name
  obtain ⟨HS0, hHS0, hh2⟩ := hh.name (keeps_cons (b := k3) (o' := C (mskA (unC g 0)) 40) (by repeat (first | exact find_head | apply find_tail | apply find_skip)) (by first | exact mskA_zero | rfl) (keeps_nil))
  refine c_loop (α := Nat) (fun c => 4 - c) (fun c a w => (c ≤ 4) ∧ Sl 36 ([(7, .int .i64 (c : Int))] ++ KS0) a ∧ Has _ w0 ([(k3, C (mskA (unC g c)) 40)] ++ HS0) w) 0 ⟨(by omega), hl.addE (t := 7) (hk) rfl (by first | rfl), hh2⟩ ?_
  clear hk hh2 hl hh a w
  intro c a w hI
  obtain ⟨hc4, hl, hh⟩ := hI
  subst hKS0; subst hHS0
  simp only [List.cons_append, List.nil_append, List.append_nil, List.append_assoc] at hl hh
  refine c_seq ?_
  refine c_region ?_
  refine wl (wl_val hl rfl trivial (r_lss hl rfl rfl) ?_)
  clear hl a; intro a hl
  refine w_nil ?_
  have hl2 := hl.add (t := 0) (hl.add (t := 2) (hl.add (t := 3) (hl.add (t := 7) (hl.add (t := 8) (hl.nil) rfl) rfl) rfl) rfl) rfl; clear hl; have hl := hl2; clear hl2
  refine then_normal ?_
  refine c_seq ?_
  refine c_cond hl rfl ?_ ?_
  · intro hc0
    try simp only [decide_eq_true_eq, decide_eq_false_iff_not, Bool.not_eq_true', Bool.not_eq_false', Bool.not_eq_true, Bool.not_eq_false, Bool.and_eq_true, Bool.or_eq_true, Bool.and_eq_false_iff, Bool.or_eq_false_iff, Bool.not_not, ne_eq, Int.not_lt, Int.not_le, Decidable.not_not, beq_iff_eq, bne_iff_ne] at hc0
    refine wp_skip ?_
    refine then_normal ?_
    refine c_seq ?_
    refine wp_block ?_
    refine c_seq ?_
    refine c_region ?_
    refine wl (wl_val hl rfl trivial (r_move hl rfl) ?_)
    clear hl a; intro a hl
    refine wl (wl_val hl rfl trivial (r_assign hl rfl) ?_)
    clear hl a; intro a hl
    refine w_nil ?_
    have hl2 := hl.add (t := 0) (hl.add (t := 2) (hl.add (t := 3) (hl.add (t := 4) (hl.add (t := 7) (hl.nil) rfl) rfl) rfl) rfl) rfl; clear hl; have hl := hl2; clear hl2
    refine then_normal ?_
    refine c_seq ?_
    refine c_region ?_
    refine wl (wl_val hl rfl trivial (r_move hl rfl) ?_)
    clear hl a; intro a hl
    refine wl (wl_val hl rfl trivial (r_move hl rfl) ?_)
    clear hl a; intro a hl
    refine wl (wl_val hl rfl trivial (r_nilCheck hl rfl) ?_)
    clear hl a; intro a hl
    refine wl (wl_val hl rfl trivial (r_field hl rfl fld110_3) ?_)
    clear hl a; intro a hl
    refine wl (wl_val hl rfl trivial (r_indexA hl rfl rfl arr108 (by omega) (by omega) (by first | (simp only [Int.reduceToNat]; rfl) | exact toNat_add1 _ | exact toNat_add2 _ _ | exact toNat_emod _ _ | exact Int.toNat_natCast _ | rfl)) ?_)
    clear hl a; intro a hl
    refine wl (w_call hl hh rfl trivial rfl cal44 rfl (edges_spec (ws := wsK g.ws c) (E := fun q => M.Eg (16 * c + q)) (fun q hq9 => (hS.gr.sh c q (by omega) hq9).row) (by omega) bg (wsK_len hG hq c)) (by repeat (first | exact keeps_nil | apply keeps_cons (by repeat (first | exact find_head | apply find_tail | apply find_skip)) (by first  | rfl) | exact keeps_self | exact keeps_left | apply keeps_app | apply keeps_mv | apply keeps_skip)) ⟨heap_keep hh hmG, fun q hq9 => mem_keep hh (mem_famR hmF (by omega))⟩ ?_)
    clear hl hh a w; intro vc Fc a w hR hl hh
    try simp only [List.cons_append, List.nil_append, List.append_assoc, List.append_nil] at hh
    have hRe := hR
    clear hR
    generalize Fc = Ee at hh hRe
    obtain ⟨es, hes⟩ : ∃ z_, z_ = edN (wsK g.ws c) 16 := ⟨_, rfl⟩
    rw [← hes] at hRe
    obtain ⟨p9, c9, hp9⟩ := row_val hRe
    subst hp9
    have hel : es.length ≤ 100000000000 := by rw [hes]; exact edK_len hG hq c
    refine wl (wl_val hl rfl trivial (r_lenS hl rfl slc59) ?_)
    clear hl a; intro a hl
    refine wl (wl_val hl rfl trivial (r_move hl rfl) ?_)
    clear hl a; intro a hl
    refine w_nil ?_
    have hl2 := hl.add (t := 0) (hl.add (t := 2) (hl.add (t := 3) (hl.add (t := 7) (hl.add (t := 15) (hl.add (t := 16) (hl.add (t := 17) (hl.nil) rfl) rfl) rfl) rfl) rfl) rfl) rfl; clear hl; have hl := hl2; clear hl2
    refine then_normal ?_
    refine wp_block ?_
    obtain ⟨KS1, hKS1, hk⟩ := (hl.add (t := 0) (hl.add (t := 2) (hl.add (t := 3) (hl.add (t := 7) (hl.add (t := 15) (hl.add (t := 16) (hl.nil) rfl) rfl) rfl) rfl) rfl) rfl).name
    obtain ⟨HS1, hHS1, hh2⟩ := hh.name (keeps_cons (b := k3) (o' := C (mskA (unC g c)) 40) (by repeat (first | exact find_head | apply find_tail | apply find_skip)) (by first | rfl) (keeps_nil))
    refine c_loop (α := Nat) (fun j => es.length - j) (fun j a w => (j ≤ es.length) ∧ Sl 36 ([(17, .int .i64 (j : Int))] ++ KS1) a ∧ Has _ w0 ([(k3, C (mskA (unL (es.take j) (unC g c))) 40)] ++ HS1) w) 0 ⟨(by omega), hl.addE (t := 17) (hk) rfl (by first | rfl), hh2⟩ ?_
    clear hk hh2 hl hh a w
    intro j a w hI
    obtain ⟨hj, hl, hh⟩ := hI
    subst hKS1; subst hHS1
    simp only [List.cons_append, List.nil_append, List.append_nil, List.append_assoc] at hl hh
    refine c_seq ?_
    refine c_region ?_
    refine wl (wl_val hl rfl trivial (r_lss hl rfl rfl) ?_)
    clear hl a; intro a hl
    refine w_nil ?_
    have hl2 := hl.add (t := 0) (hl.add (t := 2) (hl.add (t := 3) (hl.add (t := 7) (hl.add (t := 15) (hl.add (t := 16) (hl.add (t := 17) (hl.add (t := 18) (hl.nil) rfl) rfl) rfl) rfl) rfl) rfl) rfl) rfl; clear hl; have hl := hl2; clear hl2
    refine then_normal ?_
    refine c_seq ?_
    refine c_cond hl rfl ?_ ?_
    · intro hc1
      try simp only [decide_eq_true_eq, decide_eq_false_iff_not, Bool.not_eq_true', Bool.not_eq_false', Bool.not_eq_true, Bool.not_eq_false, Bool.and_eq_true, Bool.or_eq_true, Bool.and_eq_false_iff, Bool.or_eq_false_iff, Bool.not_not, ne_eq, Int.not_lt, Int.not_le, Decidable.not_not, beq_iff_eq, bne_iff_ne] at hc1
      obtain ⟨kb, jk, hpb, hjl, hjc, hEb⟩ := row_pos hRe (by omega)
      subst hpb
      subst hEb
      obtain ⟨y, hy⟩ : ∃ y, es[j]? = some y := ⟨_, List.getElem?_eq_getElem (by omega)⟩
      have hrd := fl_at egc_len hy jk
      have hym := List.mem_of_getElem? hy
      have hyb := edN_mem (hes ▸ hym)
      have hy16 : y.w < 16 := hyb.1
      have hyh : y.h < 16 := hyb.2.choose_spec.2.1
      refine wp_skip ?_
      refine then_normal ?_
      refine c_seq ?_
      refine wp_block ?_
      refine c_seq ?_
      refine c_region ?_
      refine wl (wl_val hl rfl trivial (r_indexS hl rfl rfl slc59 (by omega) (by omega) (by first | (simp only [Int.reduceToNat]; rfl) | exact toNat_add1 _ | exact toNat_add2 _ _ | exact toNat_emod _ _ | exact Int.toNat_natCast _ | rfl)) ?_)
      clear hl a; intro a hl
      refine wl (w_loadA hl hh rfl trivial agg64 rfl (by repeat (first | exact find_head | apply find_tail | apply find_skip)) (by first | exact hrd | rfl | (simp only [List.getElem?_cons_zero, List.getElem?_cons_succ, Value.cells, List.take_zero, List.take_succ_cons, List.take_nil, List.drop_zero, List.drop_succ_cons, List.drop_nil, List.length_cons, List.length_nil, List.cons_append, List.nil_append, List.append_nil, Nat.zero_add, Nat.add_zero, Nat.reduceAdd, Nat.reduceBEq, Nat.reduceEqDiff, Nat.ble, BEq.rfl, Bool.and_true, Bool.and_self, cond_true, beq_self_eq_true]; rfl)) (by first | rfl | (simp; done)) ?_)
      clear hl a; intro a hl
      refine wl (w_alloc hl hh rfl trivial zero64 rfl ?_)
      clear hl hh a w; intro k6 a w hl hh
      refine wl (w_storeA hl hh trivial agg64 rfl rfl (by repeat (first | exact find_head | apply find_tail | apply find_skip)) (by first | rfl | (simp; done) | exact hrd | rfl) (by first | (simp; done) | (simp; omega) | (rw [mskA_len]; omega)) (by first | rfl | (simp; done) | rfl) (by first | exact mskA_store (by omega) | (simp only [setL, List.getElem?_cons_zero, List.getElem?_cons_succ, Value.cells, List.take_zero, List.take_succ_cons, List.take_nil, List.drop_zero, List.drop_succ_cons, List.drop_nil, List.length_cons, List.length_nil, List.cons_append, List.nil_append, List.append_nil, Nat.zero_add, Nat.add_zero, Nat.reduceAdd, Nat.reduceBEq, Nat.reduceEqDiff, Nat.ble, BEq.rfl, Bool.and_true, Bool.and_self, cond_true, beq_self_eq_true]; rfl)) ?_)
      clear hh w; intro w hh
      refine w_nil ?_
      have hl2 := hl.add (t := 0) (hl.add (t := 2) (hl.add (t := 3) (hl.add (t := 6) (hl.add (t := 7) (hl.add (t := 15) (hl.add (t := 16) (hl.add (t := 17) (hl.nil) rfl) rfl) rfl) rfl) rfl) rfl) rfl) rfl; clear hl; have hl := hl2; clear hl2
      refine then_normal ?_
      refine c_seq ?_
      refine c_region ?_
      refine wl (wl_val hl rfl trivial (r_field hl rfl fld64_3) ?_)
      clear hl a; intro a hl
      refine wl (w_load hl hh rfl trivial one3 rfl (by repeat (first | exact find_head | apply find_tail | apply find_skip)) (by first | exact msk_at (by omega) | rfl | rfl) ?_)
      clear hl a; intro a hl
      refine wl (wl_val hl rfl trivial (r_gtr hl rfl rfl) ?_)
      clear hl a; intro a hl
      refine w_nil ?_
      have hl2 := hl.add (t := 0) (hl.add (t := 2) (hl.add (t := 3) (hl.add (t := 6) (hl.add (t := 7) (hl.add (t := 15) (hl.add (t := 16) (hl.add (t := 17) (hl.add (t := 23) (hl.nil) rfl) rfl) rfl) rfl) rfl) rfl) rfl) rfl) rfl; clear hl; have hl := hl2; clear hl2
      refine then_normal ?_
      refine c_cond hl rfl ?_ ?_
      · intro hc2
        try simp only [decide_eq_true_eq, decide_eq_false_iff_not, Bool.not_eq_true', Bool.not_eq_false', Bool.not_eq_true, Bool.not_eq_false, Bool.and_eq_true, Bool.or_eq_true, Bool.and_eq_false_iff, Bool.or_eq_false_iff, Bool.not_not, ne_eq, Int.not_lt, Int.not_le, Decidable.not_not, beq_iff_eq, bne_iff_ne] at hc2
        refine c_draw [(k6, C (egc y) 64), (k3, C (mskA (unL (es.take j) (unC g c))) 40)] [7, 8, 9] mixed hh ?_
        clear hh w; intro w hh
        have hM : Mem [(k6, C (egc y) 64), (k3, C (mskA (unL (es.take j) (unC g c))) 40)] w := (by (repeat (first | exact Mem.nil | refine Mem.consR hh (by assumption) (by simp) ?_ | refine Mem.cons hh.mem (by (repeat (first | exact find_head | apply find_tail | apply find_skip)); done) ?_ | fail)); done)
        refine d_take (i := 0) hl rfl (by kernel_rfl) (by kernel_rfl) (by kernel_rfl) (by kernel_rfl) (by kernel_rfl) rfl trivial (fun _ _ _ h => h) hM (fun w hC => r_field hl rfl fld64_0) rfl ?_
        clear hl a; intro a hl
        refine d_take (i := 1) hl rfl (by kernel_rfl) (by kernel_rfl) (by kernel_rfl) (by kernel_rfl) (by kernel_rfl) rfl trivial (fun _ _ _ h => h) hM (fun w hC => r_loadC hl rfl one52 hC (by repeat (first | exact find_head | apply find_tail | apply find_skip)) (by first | exact msk_at (by omega) | rfl | rfl)) rfl ?_
        clear hl a; intro a hl
        refine d_take (i := 2) hl rfl (by kernel_rfl) (by kernel_rfl) (by kernel_rfl) (by kernel_rfl) (by kernel_rfl) rfl trivial (fun _ _ _ h => h) hM (fun w hC => r_indexA hl rfl rfl arr40 (by omega) (by omega) (by first | (simp only [Int.reduceToNat]; rfl) | exact toNat_add1 _ | exact toNat_add2 _ _ | exact toNat_emod _ _ | exact Int.toNat_natCast _ | rfl)) rfl ?_
        clear hl a; intro a hl
        refine d_take (i := 3) hl rfl (by kernel_rfl) (by kernel_rfl) (by kernel_rfl) (by kernel_rfl) (by kernel_rfl) rfl trivial (fun _ _ _ h => h) hM (fun w hC => r_loadC hl rfl one35 hC (by repeat (first | exact find_head | apply find_tail | apply find_skip)) (by first | exact msk_at (by omega) | rfl | rfl)) rfl ?_
        clear hl a; intro a hl
        refine d_take (i := 4) hl rfl (by kernel_rfl) (by kernel_rfl) (by kernel_rfl) (by kernel_rfl) (by kernel_rfl) rfl trivial (fun _ _ _ h => h) hM (fun w hC => r_field hl rfl fld64_1) rfl ?_
        clear hl a; intro a hl
        refine d_take (i := 5) hl rfl (by kernel_rfl) (by kernel_rfl) (by kernel_rfl) (by kernel_rfl) (by kernel_rfl) rfl trivial (fun _ _ _ h => h) hM (fun w hC => r_loadC hl rfl one52 hC (by repeat (first | exact find_head | apply find_tail | apply find_skip)) (by first | exact msk_at (by omega) | rfl | rfl)) rfl ?_
        clear hl a; intro a hl
        refine d_one (i := 6) (by kernel_rfl) rfl ?_
        try clear hM
        refine id (w_call hl hh rfl trivial rfl cal27 rfl (bit_spec y.h (by omega)) (by repeat (first | exact keeps_nil | apply keeps_cons (by repeat (first | exact find_head | apply find_tail | apply find_skip)) (by first  | rfl) | exact keeps_self | exact keeps_left | apply keeps_app | apply keeps_mv | apply keeps_skip)) trivial ?_)
        clear hl hh a w; intro vc Fc a w hR hl hh
        obtain ⟨rfl, rfl⟩ := hR
        try simp only [List.cons_append, List.nil_append, List.append_assoc, List.append_nil] at hh
        have hM : Mem [(k6, C (egc y) 64), (k3, C (mskA (unL (es.take j) (unC g c))) 40)] w := (by (repeat (first | exact Mem.nil | refine Mem.consR hh (by assumption) (by simp) ?_ | refine Mem.cons hh.mem (by (repeat (first | exact find_head | apply find_tail | apply find_skip)); done) ?_ | fail)); done)
        refine d_step (fun _ => hM) ?_
        refine d_takeL (i := 7) hl rfl (by kernel_rfl) (by kernel_rfl) (by kernel_rfl) (by kernel_rfl) (by kernel_rfl) rfl trivial (fun _ _ _ h => h) (fun w => r_or hl rfl rfl) rfl ?_
        clear hl a; intro a hl
        rw [or_mi] at hl
        refine d_takeL (i := 8) hl rfl (by kernel_rfl) (by kernel_rfl) (by kernel_rfl) (by kernel_rfl) (by kernel_rfl) rfl trivial (fun _ _ _ h => h) (fun w => r_indexA hl rfl rfl arr40 (by omega) (by omega) (by first | (simp only [Int.reduceToNat]; rfl) | exact toNat_add1 _ | exact toNat_add2 _ _ | exact toNat_emod _ _ | exact Int.toNat_natCast _ | rfl)) rfl ?_
        clear hl a; intro a hl
        refine d_one (i := 9) (by kernel_rfl) rfl ?_
        try clear hM
        refine id (w_store hl hh trivial one35 rfl rfl (by repeat (first | exact find_head | apply find_tail | apply find_skip)) (by first | (simp; done) | (simp; omega) | (rw [mskA_len]; omega)) (by first | rfl | assumption | (apply Row.one; assumption)) (by first | exact mskA_store (by omega) | (simp only [setL, List.getElem?_cons_zero, List.getElem?_cons_succ, Value.cells, List.take_zero, List.take_succ_cons, List.take_nil, List.drop_zero, List.drop_succ_cons, List.drop_nil, List.length_cons, List.length_nil, List.cons_append, List.nil_append, List.append_nil, Nat.zero_add, Nat.add_zero, Nat.reduceAdd, Nat.reduceBEq, Nat.reduceEqDiff, Nat.ble, BEq.rfl, Bool.and_true, Bool.and_self, cond_true, beq_self_eq_true]; rfl)) ?_)
        clear hh w; intro w hh
        refine d_step (fun h => absurd h (by decide)) ?_
        refine d_done (by kernel_rfl) ?_
        try clear hM
        have hl2 := hl.add (t := 0) (hl.add (t := 2) (hl.add (t := 3) (hl.add (t := 7) (hl.add (t := 15) (hl.add (t := 16) (hl.add (t := 17) (hl.nil) rfl) rfl) rfl) rfl) rfl) rfl) rfl; clear hl; have hl := hl2; clear hl2
        refine blk_normal ?_
        refine then_normal ?_
        refine c_region ?_
        first | refine wl (wl_val hl rfl trivial (r_add hl rfl rfl (by simp only [Fits]; omega)) ?_) | refine wl (wl_val hl rfl trivial (r_addW hl rfl rfl) ?_)
        clear hl a; intro a hl
        refine wl (wl_val hl rfl trivial (r_move hl rfl) ?_)
        clear hl a; intro a hl
        refine w_nil ?_
        have hl2 := hl.add (t := 0) (hl.add (t := 2) (hl.add (t := 3) (hl.add (t := 7) (hl.add (t := 15) (hl.add (t := 16) (hl.add (t := 17) (hl.nil) rfl) rfl) rfl) rfl) rfl) rfl) rfl; clear hl; have hl := hl2; clear hl2
        refine then_normal ?_
        refine ⟨(j + 1), (by omega), (by omega), hl.addE (t := 17) (hl.addE (t := 0) (hl.addE (t := 2) (hl.addE (t := 3) (hl.addE (t := 7) (hl.addE (t := 15) (hl.addE (t := 16) (hl.nil) rfl (by first | rfl | (congr 1; omega))) rfl (by first | rfl | (congr 1; omega))) rfl (by first | rfl | (congr 1; omega))) rfl (by first | rfl | (congr 1; omega))) rfl (by first | rfl | (congr 1; omega))) rfl (by first | rfl | (congr 1; omega))) rfl (by first | rfl | (congr 1; omega)), hh.keep (by repeat (first | exact keeps_nil | apply keeps_cons (by repeat (first | exact find_head | apply find_tail | apply find_skip)) (by first  | exact un_T hy (by assumption) | exact un_F hy (by omega) | rfl) | exact keeps_self | exact keeps_left | apply keeps_app | apply keeps_mv | apply keeps_skip))⟩
      · intro hc2
        try simp only [decide_eq_true_eq, decide_eq_false_iff_not, Bool.not_eq_true', Bool.not_eq_false', Bool.not_eq_true, Bool.not_eq_false, Bool.and_eq_true, Bool.or_eq_true, Bool.and_eq_false_iff, Bool.or_eq_false_iff, Bool.not_not, ne_eq, Int.not_lt, Int.not_le, Decidable.not_not, beq_iff_eq, bne_iff_ne] at hc2
        refine wp_skip ?_
        refine blk_normal ?_
        refine then_normal ?_
        refine c_region ?_
        first | refine wl (wl_val hl rfl trivial (r_add hl rfl rfl (by simp only [Fits]; omega)) ?_) | refine wl (wl_val hl rfl trivial (r_addW hl rfl rfl) ?_)
        clear hl a; intro a hl
        refine wl (wl_val hl rfl trivial (r_move hl rfl) ?_)
        clear hl a; intro a hl
        refine w_nil ?_
        have hl2 := hl.add (t := 0) (hl.add (t := 2) (hl.add (t := 3) (hl.add (t := 7) (hl.add (t := 15) (hl.add (t := 16) (hl.add (t := 17) (hl.nil) rfl) rfl) rfl) rfl) rfl) rfl) rfl; clear hl; have hl := hl2; clear hl2
        refine then_normal ?_
        refine ⟨(j + 1), (by omega), (by omega), hl.addE (t := 17) (hl.addE (t := 0) (hl.addE (t := 2) (hl.addE (t := 3) (hl.addE (t := 7) (hl.addE (t := 15) (hl.addE (t := 16) (hl.nil) rfl (by first | rfl | (congr 1; omega))) rfl (by first | rfl | (congr 1; omega))) rfl (by first | rfl | (congr 1; omega))) rfl (by first | rfl | (congr 1; omega))) rfl (by first | rfl | (congr 1; omega))) rfl (by first | rfl | (congr 1; omega))) rfl (by first | rfl | (congr 1; omega)), hh.keep (by repeat (first | exact keeps_nil | apply keeps_cons (by repeat (first | exact find_head | apply find_tail | apply find_skip)) (by first  | exact un_T hy (by assumption) | exact un_F hy (by omega) | rfl) | exact keeps_self | exact keeps_left | apply keeps_app | apply keeps_mv | apply keeps_skip))⟩
    · intro hc1
      try simp only [decide_eq_true_eq, decide_eq_false_iff_not, Bool.not_eq_true', Bool.not_eq_false', Bool.not_eq_true, Bool.not_eq_false, Bool.and_eq_true, Bool.or_eq_true, Bool.and_eq_false_iff, Bool.or_eq_false_iff, Bool.not_not, ne_eq, Int.not_lt, Int.not_le, Decidable.not_not, beq_iff_eq, bne_iff_ne] at hc1
      refine wp_exit ?_
      refine then_exit ?_
      refine then_exit ?_
      refine blk_exit ?_
      refine blk_normal ?_
      refine then_normal ?_
      refine c_region ?_
      first | refine wl (wl_val hl rfl trivial (r_add hl rfl rfl (by simp only [Fits]; omega)) ?_) | refine wl (wl_val hl rfl trivial (r_addW hl rfl rfl) ?_)
      clear hl a; intro a hl
      refine wl (wl_val hl rfl trivial (r_move hl rfl) ?_)
      clear hl a; intro a hl
      refine w_nil ?_
      have hl2 := hl.add (t := 0) (hl.add (t := 2) (hl.add (t := 3) (hl.add (t := 7) (hl.nil) rfl) rfl) rfl) rfl; clear hl; have hl := hl2; clear hl2
      refine then_normal ?_
      refine ⟨(c + 1), (by omega), (by omega), hl.addE (t := 7) (hl.addE (t := 0) (hl.addE (t := 2) (hl.addE (t := 3) (hl.nil) rfl (by first | rfl | (congr 1; omega))) rfl (by first | rfl | (congr 1; omega))) rfl (by first | rfl | (congr 1; omega))) rfl (by first | rfl | (congr 1; omega)), hh.keep (by repeat (first | exact keeps_nil | apply keeps_cons (by repeat (first | exact find_head | apply find_tail | apply find_skip)) (by first  | (rw [unC, ← hes]; exact un_end (by omega)) | rfl) | exact keeps_self | exact keeps_left | apply keeps_app | apply keeps_mv | apply keeps_skip))⟩
  · intro hc0
    try simp only [decide_eq_true_eq, decide_eq_false_iff_not, Bool.not_eq_true', Bool.not_eq_false', Bool.not_eq_true, Bool.not_eq_false, Bool.and_eq_true, Bool.or_eq_true, Bool.and_eq_false_iff, Bool.or_eq_false_iff, Bool.not_not, ne_eq, Int.not_lt, Int.not_le, Decidable.not_not, beq_iff_eq, bne_iff_ne] at hc0
    have hc9 : c = 4 := by omega
    subst hc9
    refine wp_exit ?_
    refine then_exit ?_
    refine then_exit ?_
    refine blk_exit ?_
    refine then_normal ?_
    refine c_seq ?_
    refine c_region ?_
    refine wl (w_loadA hl hh rfl trivial agg40 rfl (by repeat (first | exact find_head | apply find_tail | apply find_skip)) (by first | exact mskA_whole _ | exact sn_wf _ _ _) (by exact mskA_len _) ?_)
    clear hl a; intro a hl
    refine wl (w_storeA hl hh trivial agg40 rfl rfl (by repeat (first | exact find_head | apply find_tail | apply find_skip)) (by exact mskA_len _) (by first | exact Nat.le_refl _ | (rw [mskA_len]; exact Nat.le_refl _)) (by exact mskA_one _) (by exact setL_whole (mskA_len _)) ?_)
    clear hh w; intro w hh
    refine w_nil ?_
    have hl2 := hl.add (t := 2) (hl.nil) rfl; clear hl; have hl := hl2; clear hl2
    refine then_normal ?_
    refine wp_ret ?_
    refine f_retC (F' := []) hl hh rfl rfl agg40 (by repeat (first | exact find_head | apply find_tail | apply find_skip)) (by first | rfl | exact arrL_length _ _ | (simp; done)) (by repeat (first | exact keeps_nil | apply keeps_cons (by repeat (first | exact find_head | apply find_tail | apply find_skip)) (by first  | rfl) | exact keeps_self | exact keeps_left | apply keeps_app | apply keeps_mv | apply keeps_skip)) ?_
    exact ⟨rfl, rfl⟩

set_option maxHeartbeats 4000000 in
theorem settled_spec {g : Gs} {M : Mm} (hS : SysF g M) (bg : Nat) (B Q : Int) (hq : BQ B Q) (hG : GI B Q g) (hM : MIall g) (hqt : quietB g.bx 16 = true) : SpK Tryd.prog 17 #[.pointer (some ⟨bg, 0, none⟩)] (Mem (sysL bg M)) [] (fun v F' => v = .bool true ∧ F' = []) := by
  refine f_enter (args := [.pointer (some ⟨bg, 0, none⟩)]) Tryd.func17 rfl Tryd.ntmps17 rfl ?_
  intro w0 w a hpre hl hh
  simp only [slotsFrom, Nat.reduceAdd] at hl
  refine c_seq ?_
  refine c_region ?_
  refine wl (wl_val hl rfl trivial (r_assign hl rfl) ?_)
  clear hl a; intro a hl
  refine w_nil ?_
  have hl2 := hl.add (t := 0) (hl.nil) rfl; clear hl; have hl := hl2; clear hl2
  refine then_normal ?_
  refine c_seq ?_
  refine c_region ?_
  refine wl (wl_val hl rfl trivial (r_move hl rfl) ?_)
  clear hl a; intro a hl
  refine wl (w_call hl hh rfl trivial rfl cal28 rfl (snap_spec hS bg B Q hq hG) (by repeat (first | exact keeps_nil | apply keeps_cons (by repeat (first | exact find_head | exact find_app hfind | apply find_tail | apply find_skip)) (by first  | rfl) | exact keeps_self | exact keeps_left | apply keeps_app | apply keeps_mv | apply keeps_skip)) (mem_keep hh hpre) ?_)
  clear hl hh a w; intro vc Fc a w hR hl hh
  obtain ⟨ev0, bv0, Ee0, Eb0, rfl, hSn, rfl⟩ := hR
  try simp only [List.cons_append, List.nil_append, List.append_assoc, List.append_nil] at hh
  refine wl (w_alloc hl hh rfl trivial zero75 rfl ?_)
  clear hl hh a w; intro k3 a w hl hh
  refine wl (w_storeA hl hh trivial agg75 rfl rfl (by repeat (first | exact find_head | exact find_app hfind | apply find_tail | apply find_skip)) (by exact snC_len _ _ _) (by first | exact Nat.le_of_eq (arrL_length _ _).symm | (rw [snC_len]; exact Nat.le_refl _)) (by first | exact snC_one hSn | exact snC_one hSn2) (by exact setL_whole (by first | rw [snC_len, arrL_length] | rw [snC_len, snC_len])) ?_)
  clear hh w; intro w hh
  refine w_nil ?_
  have hl2 := hl.add (t := 0) (hl.add (t := 3) (hl.nil) rfl) rfl; clear hl; have hl := hl2; clear hl2
  refine then_normal ?_
  refine c_seq ?_
  refine c_seq ?_
  refine c_draw [(k3, C (snC g ev0 bv0) 75)] [4] mixed hh ?_
  clear hh w; intro w hh
  have hM : Mem [(k3, C (snC g ev0 bv0) 75)] w := (by (repeat (first | exact Mem.nil | refine Mem.consR hh (by assumption) (by simp) ?_ | refine Mem.cons hh.mem (by (repeat (first | exact find_head | exact find_app hfind | apply find_tail | apply find_skip)); done) ?_ | fail)); done)
  refine d_take (i := 0) hl rfl (by kernel_rfl) (by kernel_rfl) (by kernel_rfl) (by kernel_rfl) (by kernel_rfl) rfl trivial (fun _ _ _ h => h) hM (fun w hC => r_move hl rfl) rfl ?_
  clear hl a; intro a hl
  refine d_take (i := 2) hl rfl (by kernel_rfl) (by kernel_rfl) (by kernel_rfl) (by kernel_rfl) (by kernel_rfl) rfl trivial (fun _ _ _ h => h) hM (fun w hC => r_field hl rfl fld75_3) rfl ?_
  clear hl a; intro a hl
  refine d_take (i := 3) hl rfl (by kernel_rfl) (by kernel_rfl) (by kernel_rfl) (by kernel_rfl) (by kernel_rfl) rfl trivial (fun _ _ _ h => h) hM (fun w hC => r_loadCA hl rfl agg40 hC (by repeat (first | exact find_head | exact find_app hfind | apply find_tail | apply find_skip)) (by first | exact mskA_whole _ | exact sn_wf _ _ _) (by exact mskA_len _)) rfl ?_
  clear hl a; intro a hl
  refine d_one (i := 1) (by kernel_rfl) rfl ?_
  try clear hM
  refine id (w_call hl hh rfl trivial rfl cal15 rfl (union_spec hS bg B Q hq hG) (by repeat (first | exact keeps_nil | apply keeps_cons (by repeat (first | exact find_head | exact find_app hfind | apply find_tail | apply find_skip)) (by first  | rfl) | exact keeps_self | exact keeps_left | apply keeps_app | apply keeps_mv | apply keeps_skip)) (mem_keep hh hpre) ?_)
  clear hl hh a w; intro vc Fc a w hR hl hh
  obtain ⟨rfl, rfl⟩ := hR
  try simp only [List.cons_append, List.nil_append, List.append_assoc, List.append_nil] at hh
  rw [un_eq hG hM hqt] at hl
  have hM : Mem [(k3, C (snC g ev0 bv0) 75)] w := (by (repeat (first | exact Mem.nil | refine Mem.consR hh (by assumption) (by simp) ?_ | refine Mem.cons hh.mem (by (repeat (first | exact find_head | exact find_app hfind | apply find_tail | apply find_skip)); done) ?_ | fail)); done)
  refine d_step (fun _ => hM) ?_
  refine d_takeL (i := 4) hl rfl (by kernel_rfl) (by kernel_rfl) (by kernel_rfl) (by kernel_rfl) (by kernel_rfl) rfl trivial (fun _ _ _ h => h) (fun w => r_neqSame hl rfl rfl eqf40 shp40 (unl16 _) (fit16 _)) rfl ?_
  clear hl a; intro a hl
  refine d_done (by kernel_rfl) ?_
  try clear hM
  have hl2 := hl.add (t := 3) (hl.add (t := 13) (hl.nil) rfl) rfl; clear hl; have hl := hl2; clear hl2
  refine then_normal ?_
  refine c_condF hl rfl ?_
  refine wp_skip ?_
  refine then_normal ?_
  refine c_seq ?_
  refine c_seq ?_
  refine c_region ?_
  refine wl (wl_val hl rfl trivial (r_move hl rfl) ?_)
  clear hl a; intro a hl
  refine w_nil ?_
  have hl2 := hl.add (t := 3) (hl.add (t := 14) (hl.nil) rfl) rfl; clear hl; have hl := hl2; clear hl2
  refine then_normal ?_
  refine wp_block ?_
  obtain ⟨KS0, hKS0, hk⟩ := (hl.add (t := 3) (hl.nil) rfl).name
  obtain ⟨HS0, hHS0, hh2⟩ := hh.name (keeps_nil)
  refine c_loop (α := Nat) (fun c => 4 - c) (fun c a w => (c ≤ 4) ∧ Sl 49 ([(14, .int .i64 (c : Int))] ++ KS0) a ∧ Has _ w0 ([] ++ HS0) w) 0 ⟨(by omega), hl.addE (t := 14) (hk) rfl (by first | rfl), hh2⟩ ?_
  clear hk hh2 hl hh a w
  intro c a w hI
  obtain ⟨hc4, hl, hh⟩ := hI
  subst hKS0; subst hHS0
  simp only [List.cons_append, List.nil_append, List.append_nil, List.append_assoc] at hl hh
  refine c_seq ?_
  refine c_region ?_
  refine wl (wl_val hl rfl trivial (r_lss hl rfl rfl) ?_)
  clear hl a; intro a hl
  refine w_nil ?_
  have hl2 := hl.add (t := 3) (hl.add (t := 14) (hl.add (t := 15) (hl.nil) rfl) rfl) rfl; clear hl; have hl := hl2; clear hl2
  refine then_normal ?_
  refine c_seq ?_
  refine c_cond hl rfl ?_ ?_
  · intro hc1
    try simp only [decide_eq_true_eq, decide_eq_false_iff_not, Bool.not_eq_true', Bool.not_eq_false', Bool.not_eq_true, Bool.not_eq_false, Bool.and_eq_true, Bool.or_eq_true, Bool.and_eq_false_iff, Bool.or_eq_false_iff, Bool.not_not, ne_eq, Int.not_lt, Int.not_le, Decidable.not_not, beq_iff_eq, bne_iff_ne] at hc1
    obtain ⟨es, hes⟩ : ∃ z_, z_ = edN (wsK g.ws c) 16 := ⟨_, rfl⟩
    have hRe := hSn.e c (by omega)
    rw [← hes] at hRe
    obtain ⟨p9, c9, hp9⟩ := row_val hRe
    have hel : es.length ≤ 100000000000 := by rw [hes]; exact edK_len hG hq c
    refine wp_skip ?_
    refine then_normal ?_
    refine c_seq ?_
    refine wp_block ?_
    refine c_seq ?_
    refine c_region ?_
    refine wl (wl_val hl rfl trivial (r_move hl rfl) ?_)
    clear hl a; intro a hl
    refine wl (wl_val hl rfl trivial (r_assign hl rfl) ?_)
    clear hl a; intro a hl
    refine w_nil ?_
    have hl2 := hl.add (t := 3) (hl.add (t := 4) (hl.add (t := 14) (hl.nil) rfl) rfl) rfl; clear hl; have hl := hl2; clear hl2
    refine then_normal ?_
    refine c_seq ?_
    refine c_region ?_
    refine wl (wl_val hl rfl trivial (r_move hl rfl) ?_)
    clear hl a; intro a hl
    refine wl (wl_val hl rfl trivial (r_field hl rfl fld75_1) ?_)
    clear hl a; intro a hl
    refine wl (wl_val hl rfl trivial (r_indexA hl rfl rfl arr71 (by omega) (by omega) (by first | (simp only [Int.reduceToNat]; rfl) | exact toNat_add1 _ | exact toNat_add2 _ _ | exact toNat_emod _ _ | exact Int.toNat_natCast _ | rfl)) ?_)
    clear hl a; intro a hl
    refine wl (wl_val hl rfl trivial (r_field hl rfl fld61_1) ?_)
    clear hl a; intro a hl
    refine wl (w_load hl hh rfl trivial one59 rfl (by repeat (first | exact find_head | exact find_app hfind | apply find_tail | apply find_skip)) (by first | exact sn_ed (by omega) | exact sn_ep1 (by omega) | rfl | rfl) ?_)
    clear hl a; intro a hl
    rw [hp9] at hl
    refine wl (wl_val hl rfl trivial (r_lenS hl rfl slc59) ?_)
    clear hl a; intro a hl
    refine wl (wl_val hl rfl trivial (r_move hl rfl) ?_)
    clear hl a; intro a hl
    refine w_nil ?_
    have hl2 := hl.add (t := 3) (hl.add (t := 4) (hl.add (t := 14) (hl.add (t := 21) (hl.add (t := 22) (hl.add (t := 23) (hl.nil) rfl) rfl) rfl) rfl) rfl) rfl; clear hl; have hl := hl2; clear hl2
    refine then_normal ?_
    refine wp_block ?_
    obtain ⟨KS1, hKS1, hk⟩ := (hl.add (t := 3) (hl.add (t := 4) (hl.add (t := 14) (hl.add (t := 21) (hl.add (t := 22) (hl.nil) rfl) rfl) rfl) rfl) rfl).name
    obtain ⟨HS1, hHS1, hh2⟩ := hh.name (keeps_nil)
    refine c_loop (α := Nat) (fun j => es.length - j) (fun j a w => (j ≤ es.length) ∧ Sl 49 ([(23, .int .i64 (j : Int))] ++ KS1) a ∧ Has _ w0 ([] ++ HS1) w) 0 ⟨(by omega), hl.addE (t := 23) (hk) rfl (by first | rfl), hh2⟩ ?_
    clear hk hh2 hl hh a w
    intro j a w hI
    obtain ⟨hj, hl, hh⟩ := hI
    subst hKS1; subst hHS1
    simp only [List.cons_append, List.nil_append, List.append_nil, List.append_assoc] at hl hh
    refine c_seq ?_
    refine c_region ?_
    refine wl (wl_val hl rfl trivial (r_lss hl rfl rfl) ?_)
    clear hl a; intro a hl
    refine w_nil ?_
    have hl2 := hl.add (t := 3) (hl.add (t := 4) (hl.add (t := 14) (hl.add (t := 21) (hl.add (t := 22) (hl.add (t := 23) (hl.add (t := 24) (hl.nil) rfl) rfl) rfl) rfl) rfl) rfl) rfl; clear hl; have hl := hl2; clear hl2
    refine then_normal ?_
    refine c_seq ?_
    refine c_cond hl rfl ?_ ?_
    · intro hc2
      try simp only [decide_eq_true_eq, decide_eq_false_iff_not, Bool.not_eq_true', Bool.not_eq_false', Bool.not_eq_true, Bool.not_eq_false, Bool.and_eq_true, Bool.or_eq_true, Bool.and_eq_false_iff, Bool.or_eq_false_iff, Bool.not_not, ne_eq, Int.not_lt, Int.not_le, Decidable.not_not, beq_iff_eq, bne_iff_ne] at hc2
      obtain ⟨kb, jk, hpb, hjl, hjc, hEb⟩ := row_pos (hp9 ▸ hRe) (by omega)
      subst hpb
      obtain ⟨y, hy⟩ : ∃ y, es[j]? = some y := ⟨_, List.getElem?_eq_getElem (by omega)⟩
      have hrd := fl_at egc_len hy jk
      have hym := List.mem_of_getElem? hy
      obtain ⟨hy1, hy2, hy3, hy4, hy5⟩ := quiet_ed hG hM hqt (hes ▸ hym)
      have hfind := find_fam (n := 4) (by omega) hEb
      refine wp_skip ?_
      refine then_normal ?_
      refine c_seq ?_
      refine wp_block ?_
      refine c_seq ?_
      refine c_region ?_
      refine wl (wl_val hl rfl trivial (r_indexS hl rfl rfl slc59 (by omega) (by omega) (by first | (simp only [Int.reduceToNat]; rfl) | exact toNat_add1 _ | exact toNat_add2 _ _ | exact toNat_emod _ _ | exact Int.toNat_natCast _ | rfl)) ?_)
      clear hl a; intro a hl
      refine wl (w_loadA hl hh rfl trivial agg64 rfl (by repeat (first | exact find_head | exact find_app hfind | apply find_tail | apply find_skip)) (by first | exact hrd | rfl | (simp only [List.getElem?_cons_zero, List.getElem?_cons_succ, Value.cells, List.take_zero, List.take_succ_cons, List.take_nil, List.drop_zero, List.drop_succ_cons, List.drop_nil, List.length_cons, List.length_nil, List.cons_append, List.nil_append, List.append_nil, Nat.zero_add, Nat.add_zero, Nat.reduceAdd, Nat.reduceBEq, Nat.reduceEqDiff, Nat.ble, BEq.rfl, Bool.and_true, Bool.and_self, cond_true, beq_self_eq_true]; rfl)) (by first | rfl | (simp; done)) ?_)
      clear hl a; intro a hl
      refine wl (w_alloc hl hh rfl trivial zero64 rfl ?_)
      clear hl hh a w; intro k6 a w hl hh
      refine wl (w_storeA hl hh trivial agg64 rfl rfl (by repeat (first | exact find_head | exact find_app hfind | apply find_tail | apply find_skip)) (by first | rfl | (simp; done) | exact hrd | rfl) (by first | (simp; done) | (simp; omega)) (by first | rfl | (simp; done) | rfl) (by first | (simp only [setL, List.getElem?_cons_zero, List.getElem?_cons_succ, Value.cells, List.take_zero, List.take_succ_cons, List.take_nil, List.drop_zero, List.drop_succ_cons, List.drop_nil, List.length_cons, List.length_nil, List.cons_append, List.nil_append, List.append_nil, Nat.zero_add, Nat.add_zero, Nat.reduceAdd, Nat.reduceBEq, Nat.reduceEqDiff, Nat.ble, BEq.rfl, Bool.and_true, Bool.and_self, cond_true, beq_self_eq_true]; rfl)) ?_)
      clear hh w; intro w hh
      refine w_nil ?_
      have hl2 := hl.add (t := 3) (hl.add (t := 4) (hl.add (t := 6) (hl.add (t := 14) (hl.add (t := 21) (hl.add (t := 22) (hl.add (t := 23) (hl.nil) rfl) rfl) rfl) rfl) rfl) rfl) rfl; clear hl; have hl := hl2; clear hl2
      refine then_normal ?_
      refine c_seq ?_
      refine c_draw [(k6, C (egc y) 64), (k3, C (snC g ev0 bv0) 75)] [18, 19] mixed hh ?_
      clear hh w; intro w hh
      have hM : Mem [(k6, C (egc y) 64), (k3, C (snC g ev0 bv0) 75)] w := (by (repeat (first | exact Mem.nil | refine Mem.consR hh (by assumption) (by simp) ?_ | refine Mem.cons hh.mem (by (repeat (first | exact find_head | exact find_app hfind | apply find_tail | apply find_skip)); done) ?_ | fail)); done)
      refine d_take (i := 0) hl rfl (by kernel_rfl) (by kernel_rfl) (by kernel_rfl) (by kernel_rfl) (by kernel_rfl) rfl trivial (fun _ _ _ h => h) hM (fun w hC => r_field hl rfl fld64_3) rfl ?_
      clear hl a; intro a hl
      refine d_take (i := 1) hl rfl (by kernel_rfl) (by kernel_rfl) (by kernel_rfl) (by kernel_rfl) (by kernel_rfl) rfl trivial (fun _ _ _ h => h) hM (fun w hC => r_loadC hl rfl one3 hC (by repeat (first | exact find_head | exact find_app hfind | apply find_tail | apply find_skip)) (by first | exact sn_ed (by omega) | exact sn_ep1 (by omega) | rfl | rfl)) rfl ?_
      clear hl a; intro a hl
      refine d_take (i := 2) hl rfl (by kernel_rfl) (by kernel_rfl) (by kernel_rfl) (by kernel_rfl) (by kernel_rfl) rfl trivial (fun _ _ _ h => h) hM (fun w hC => r_neq hl rfl rfl) rfl ?_
      clear hl a; intro a hl
      refine d_take (i := 3) hl rfl (by kernel_rfl) (by kernel_rfl) (by kernel_rfl) (by kernel_rfl) (by kernel_rfl) rfl trivial (fun _ _ _ h => h) hM (fun w hC => r_move hl rfl) rfl ?_
      clear hl a; intro a hl
      refine sl_split (t := 30) hl rfl ?_ ?_
      · intro hg1; clear hl; intro hl
        try simp only [decide_eq_true_eq, decide_eq_false_iff_not, Bool.not_eq_true', Bool.not_eq_false', Bool.not_eq_true, Bool.not_eq_false, Bool.and_eq_true, Bool.or_eq_true, Bool.and_eq_false_iff, Bool.or_eq_false_iff, Bool.not_not, ne_eq, Int.not_lt, Int.not_le, Decidable.not_not, beq_iff_eq, bne_iff_ne] at hg1
        exfalso; first | contradiction | omega
      · intro hg1; clear hl; intro hl
        try simp only [decide_eq_true_eq, decide_eq_false_iff_not, Bool.not_eq_true', Bool.not_eq_false', Bool.not_eq_true, Bool.not_eq_false, Bool.and_eq_true, Bool.or_eq_true, Bool.and_eq_false_iff, Bool.or_eq_false_iff, Bool.not_not, ne_eq, Int.not_lt, Int.not_le, Decidable.not_not, beq_iff_eq, bne_iff_ne] at hg1
        refine d_take (i := 4) hl rfl (by kernel_rfl) (by kernel_rfl) (by kernel_rfl) (by kernel_rfl) (by kernel_rfl) rfl ⟨_, _, rfl, rfl, rfl⟩ (fun _ _ _ h => h) hM (fun w hC => r_field hl rfl fld64_2) rfl ?_
        clear hl a; intro a hl
        refine d_take (i := 5) hl rfl (by kernel_rfl) (by kernel_rfl) (by kernel_rfl) (by kernel_rfl) (by kernel_rfl) rfl ⟨_, _, rfl, rfl, rfl⟩ (fun _ _ _ h => h) hM (fun w hC => r_loadC hl rfl one49 hC (by repeat (first | exact find_head | exact find_app hfind | apply find_tail | apply find_skip)) (by first | exact sn_ed (by omega) | exact sn_ep1 (by omega) | rfl | rfl)) rfl ?_
        clear hl a; intro a hl
        refine d_take (i := 6) hl rfl (by kernel_rfl) (by kernel_rfl) (by kernel_rfl) (by kernel_rfl) (by kernel_rfl) rfl ⟨_, _, rfl, rfl, rfl⟩ (fun _ _ _ h => h) hM (fun w hC => r_field hl rfl fld64_0) rfl ?_
        clear hl a; intro a hl
        refine d_take (i := 7) hl rfl (by kernel_rfl) (by kernel_rfl) (by kernel_rfl) (by kernel_rfl) (by kernel_rfl) rfl ⟨_, _, rfl, rfl, rfl⟩ (fun _ _ _ h => h) hM (fun w hC => r_loadC hl rfl one52 hC (by repeat (first | exact find_head | exact find_app hfind | apply find_tail | apply find_skip)) (by first | exact sn_ed (by omega) | exact sn_ep1 (by omega) | rfl | rfl)) rfl ?_
        clear hl a; intro a hl
        refine d_take (i := 8) hl rfl (by kernel_rfl) (by kernel_rfl) (by kernel_rfl) (by kernel_rfl) (by kernel_rfl) rfl ⟨_, _, rfl, rfl, rfl⟩ (fun _ _ _ h => h) hM (fun w hC => r_field hl rfl fld75_0) rfl ?_
        clear hl a; intro a hl
        refine d_take (i := 9) hl rfl (by kernel_rfl) (by kernel_rfl) (by kernel_rfl) (by kernel_rfl) (by kernel_rfl) rfl ⟨_, _, rfl, rfl, rfl⟩ (fun _ _ _ h => h) hM (fun w hC => r_indexA hl rfl rfl arr50 (by omega) (by omega) (by first | (simp only [Int.reduceToNat]; rfl) | exact toNat_add1 _ | exact toNat_add2 _ _ | exact toNat_emod _ _ | exact Int.toNat_natCast _ | rfl)) rfl ?_
        clear hl a; intro a hl
        refine d_take (i := 10) hl rfl (by kernel_rfl) (by kernel_rfl) (by kernel_rfl) (by kernel_rfl) (by kernel_rfl) rfl ⟨_, _, rfl, rfl, rfl⟩ (fun _ _ _ h => h) hM (fun w hC => r_loadC hl rfl one49 hC (by repeat (first | exact find_head | exact find_app hfind | apply find_tail | apply find_skip)) (by first | exact sn_ed (by omega) | exact sn_ep1 (by omega) | rfl | rfl)) rfl ?_
        clear hl a; intro a hl
        refine d_take (i := 11) hl rfl (by kernel_rfl) (by kernel_rfl) (by kernel_rfl) (by kernel_rfl) (by kernel_rfl) rfl ⟨_, _, rfl, rfl, rfl⟩ (fun _ _ _ h => h) hM (fun w hC => r_neq hl rfl rfl) rfl ?_
        clear hl a; intro a hl
        refine d_take (i := 12) hl rfl (by kernel_rfl) (by kernel_rfl) (by kernel_rfl) (by kernel_rfl) (by kernel_rfl) rfl trivial (fun _ _ _ h => h) hM (fun w hC => r_pickF hl rfl rfl) rfl ?_
        clear hl a; intro a hl
        refine d_take (i := 13) hl rfl (by kernel_rfl) (by kernel_rfl) (by kernel_rfl) (by kernel_rfl) (by kernel_rfl) rfl trivial (fun _ _ _ h => h) hM (fun w hC => r_move hl rfl) rfl ?_
        clear hl a; intro a hl
        refine sl_split (t := 40) hl rfl ?_ ?_
        · intro hg2; clear hl; intro hl
          try simp only [decide_eq_true_eq, decide_eq_false_iff_not, Bool.not_eq_true', Bool.not_eq_false', Bool.not_eq_true, Bool.not_eq_false, Bool.and_eq_true, Bool.or_eq_true, Bool.and_eq_false_iff, Bool.or_eq_false_iff, Bool.not_not, ne_eq, Int.not_lt, Int.not_le, Decidable.not_not, beq_iff_eq, bne_iff_ne] at hg2
          exfalso; first | contradiction | omega
        · intro hg2; clear hl; intro hl
          try simp only [decide_eq_true_eq, decide_eq_false_iff_not, Bool.not_eq_true', Bool.not_eq_false', Bool.not_eq_true, Bool.not_eq_false, Bool.and_eq_true, Bool.or_eq_true, Bool.and_eq_false_iff, Bool.or_eq_false_iff, Bool.not_not, ne_eq, Int.not_lt, Int.not_le, Decidable.not_not, beq_iff_eq, bne_iff_ne] at hg2
          refine d_take (i := 14) hl rfl (by kernel_rfl) (by kernel_rfl) (by kernel_rfl) (by kernel_rfl) (by kernel_rfl) rfl ⟨_, _, rfl, rfl, rfl⟩ (fun _ _ _ h => h) hM (fun w hC => r_field hl rfl fld64_0) rfl ?_
          clear hl a; intro a hl
          refine d_take (i := 15) hl rfl (by kernel_rfl) (by kernel_rfl) (by kernel_rfl) (by kernel_rfl) (by kernel_rfl) rfl ⟨_, _, rfl, rfl, rfl⟩ (fun _ _ _ h => h) hM (fun w hC => r_loadC hl rfl one52 hC (by repeat (first | exact find_head | exact find_app hfind | apply find_tail | apply find_skip)) (by first | exact sn_ed (by omega) | exact sn_ep1 (by omega) | rfl | rfl)) rfl ?_
          clear hl a; intro a hl
          refine d_take (i := 17) hl rfl (by kernel_rfl) (by kernel_rfl) (by kernel_rfl) (by kernel_rfl) (by kernel_rfl) rfl ⟨_, _, rfl, rfl, rfl⟩ (fun _ _ _ h => h) hM (fun w hC => r_move hl rfl) rfl ?_
          clear hl a; intro a hl
          refine d_one (i := 16) (by kernel_rfl) rfl ?_
          try clear hM
          refine id (w_call hl hh rfl ⟨_, _, rfl, rfl, rfl⟩ rfl cal23 rfl (home_spec y.w (by omega)) (by repeat (first | exact keeps_nil | apply keeps_cons (by repeat (first | exact find_head | exact find_app hfind | apply find_tail | apply find_skip)) (by first  | rfl) | exact keeps_self | exact keeps_left | apply keeps_app | apply keeps_mv | apply keeps_skip)) trivial ?_)
          clear hl hh a w; intro vc Fc a w hR hl hh
          obtain ⟨rfl, rfl⟩ := hR
          try simp only [List.cons_append, List.nil_append, List.append_assoc, List.append_nil] at hh
          have hM : Mem [(k6, C (egc y) 64), (k3, C (snC g ev0 bv0) 75)] w := (by (repeat (first | exact Mem.nil | refine Mem.consR hh (by assumption) (by simp) ?_ | refine Mem.cons hh.mem (by (repeat (first | exact find_head | exact find_app hfind | apply find_tail | apply find_skip)); done) ?_ | fail)); done)
          refine d_step (fun _ => hM) ?_
          refine d_takeL (i := 18) hl rfl (by kernel_rfl) (by kernel_rfl) (by kernel_rfl) (by kernel_rfl) (by kernel_rfl) rfl ⟨_, _, rfl, rfl, rfl⟩ (fun _ _ _ h => h) (fun w => r_neq hl rfl rfl) rfl ?_
          clear hl a; intro a hl
          refine d_takeL (i := 19) hl rfl (by kernel_rfl) (by kernel_rfl) (by kernel_rfl) (by kernel_rfl) (by kernel_rfl) rfl trivial (fun _ _ _ h => h) (fun w => r_pickF hl rfl rfl) rfl ?_
          clear hl a; intro a hl
          refine d_done (by kernel_rfl) ?_
          try clear hM
          have hl2 := hl.add (t := 3) (hl.add (t := 4) (hl.add (t := 14) (hl.add (t := 21) (hl.add (t := 22) (hl.add (t := 23) (hl.add (t := 46) (hl.nil) rfl) rfl) rfl) rfl) rfl) rfl) rfl; clear hl; have hl := hl2; clear hl2
          refine then_normal ?_
          refine c_cond hl rfl ?_ ?_
          · intro hc3
            try simp only [decide_eq_true_eq, decide_eq_false_iff_not, Bool.not_eq_true', Bool.not_eq_false', Bool.not_eq_true, Bool.not_eq_false, Bool.and_eq_true, Bool.or_eq_true, Bool.and_eq_false_iff, Bool.or_eq_false_iff, Bool.not_not, ne_eq, Int.not_lt, Int.not_le, Decidable.not_not, beq_iff_eq, bne_iff_ne] at hc3
            exfalso; first | contradiction | omega
          · intro hc3
            try simp only [decide_eq_true_eq, decide_eq_false_iff_not, Bool.not_eq_true', Bool.not_eq_false', Bool.not_eq_true, Bool.not_eq_false, Bool.and_eq_true, Bool.or_eq_true, Bool.and_eq_false_iff, Bool.or_eq_false_iff, Bool.not_not, ne_eq, Int.not_lt, Int.not_le, Decidable.not_not, beq_iff_eq, bne_iff_ne] at hc3
            refine wp_skip ?_
            refine blk_normal ?_
            refine then_normal ?_
            refine c_region ?_
            first | refine wl (wl_val hl rfl trivial (r_add hl rfl rfl (by simp only [Fits]; omega)) ?_) | refine wl (wl_val hl rfl trivial (r_addW hl rfl rfl) ?_)
            clear hl a; intro a hl
            refine wl (wl_val hl rfl trivial (r_move hl rfl) ?_)
            clear hl a; intro a hl
            refine w_nil ?_
            have hl2 := hl.add (t := 3) (hl.add (t := 4) (hl.add (t := 14) (hl.add (t := 21) (hl.add (t := 22) (hl.add (t := 23) (hl.nil) rfl) rfl) rfl) rfl) rfl) rfl; clear hl; have hl := hl2; clear hl2
            refine then_normal ?_
            refine ⟨(j + 1), (by omega), (by omega), hl.addE (t := 23) (hl.addE (t := 3) (hl.addE (t := 4) (hl.addE (t := 14) (hl.addE (t := 21) (hl.addE (t := 22) (hl.nil) rfl (by first | rfl | (congr 1; omega))) rfl (by first | rfl | (congr 1; omega))) rfl (by first | rfl | (congr 1; omega))) rfl (by first | rfl | (congr 1; omega))) rfl (by first | rfl | (congr 1; omega))) rfl (by first | rfl | (congr 1; omega)), hh.keep (by repeat (first | exact keeps_nil | apply keeps_cons (by repeat (first | exact find_head | exact find_app hfind | apply find_tail | apply find_skip)) (by first  | rfl) | exact keeps_self | exact keeps_left | apply keeps_app | apply keeps_mv | apply keeps_skip))⟩
    · intro hc2
      try simp only [decide_eq_true_eq, decide_eq_false_iff_not, Bool.not_eq_true', Bool.not_eq_false', Bool.not_eq_true, Bool.not_eq_false, Bool.and_eq_true, Bool.or_eq_true, Bool.and_eq_false_iff, Bool.or_eq_false_iff, Bool.not_not, ne_eq, Int.not_lt, Int.not_le, Decidable.not_not, beq_iff_eq, bne_iff_ne] at hc2
      refine wp_exit ?_
      refine then_exit ?_
      refine then_exit ?_
      refine blk_exit ?_
      refine blk_normal ?_
      refine then_normal ?_
      refine c_region ?_
      first | refine wl (wl_val hl rfl trivial (r_add hl rfl rfl (by simp only [Fits]; omega)) ?_) | refine wl (wl_val hl rfl trivial (r_addW hl rfl rfl) ?_)
      clear hl a; intro a hl
      refine wl (wl_val hl rfl trivial (r_move hl rfl) ?_)
      clear hl a; intro a hl
      refine w_nil ?_
      have hl2 := hl.add (t := 3) (hl.add (t := 14) (hl.nil) rfl) rfl; clear hl; have hl := hl2; clear hl2
      refine then_normal ?_
      refine ⟨(c + 1), (by omega), (by omega), hl.addE (t := 14) (hl.addE (t := 3) (hl.nil) rfl (by first | rfl | (congr 1; omega))) rfl (by first | rfl | (congr 1; omega)), hh.keep (by repeat (first | exact keeps_nil | apply keeps_cons (by repeat (first | exact find_head | exact find_app hfind | apply find_tail | apply find_skip)) (by first  | rfl) | exact keeps_self | exact keeps_left | apply keeps_app | apply keeps_mv | apply keeps_skip))⟩
  · intro hc1
    try simp only [decide_eq_true_eq, decide_eq_false_iff_not, Bool.not_eq_true', Bool.not_eq_false', Bool.not_eq_true, Bool.not_eq_false, Bool.and_eq_true, Bool.or_eq_true, Bool.and_eq_false_iff, Bool.or_eq_false_iff, Bool.not_not, ne_eq, Int.not_lt, Int.not_le, Decidable.not_not, beq_iff_eq, bne_iff_ne] at hc1
    refine wp_exit ?_
    refine then_exit ?_
    refine then_exit ?_
    refine blk_exit ?_
    refine then_normal ?_
    refine c_seq ?_
    refine c_region ?_
    refine wl (wl_val hl rfl trivial (r_assign hl rfl) ?_)
    clear hl a; intro a hl
    refine w_nil ?_
    have hl2 := hl.add (t := 2) (hl.nil) rfl; clear hl; have hl := hl2; clear hl2
    refine then_normal ?_
    refine wp_ret ?_
    refine f_ret1 (F' := []) hl hh rfl rfl (by repeat (first | exact keeps_nil | apply keeps_cons (by repeat (first | exact find_head | exact find_app hfind | apply find_tail | apply find_skip)) (by first  | rfl) | exact keeps_self | exact keeps_left | apply keeps_app | apply keeps_mv | apply keeps_skip)) ?_
    exact ⟨rfl, rfl⟩
end Go.Proofs.Qxb6500911aDoor

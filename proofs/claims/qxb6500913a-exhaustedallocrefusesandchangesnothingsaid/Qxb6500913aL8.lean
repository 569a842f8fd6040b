import Derived.Test.Qxb6500913aPs
namespace Go.Proofs.Qxb6500913a
open Go.Eng
set_option linter.unusedVariables false
set_option linter.unusedSimpArgs false
theorem zero3 : zeroOk Try.prog 3 (.int .i64 0) := by unfold zeroOk; kernel_rfl
theorem fldT44_0 : fieldTOk Try.prog 44 0 0 42 = true := by kernel_rfl
theorem cal22 : callable Try.prog 22 = true := by kernel_rfl
theorem cal28 : callable Try.prog 28 = true := by kernel_rfl
theorem arr62 : arrOk Try.prog 62 4096 1 = true := by kernel_rfl
theorem cal32 : callable Try.prog 32 = true := by kernel_rfl
attribute [local irreducible] encL

theorem chain_unique {f : Nat → Int} : ∀ {l l' : List Nat} {h : Int}, Chain f h l → Chain f h l' → l = l'
  | [], [], _, _, _ => rfl
  | [], x :: l', h, a, b => by have := b.1; have := b.2.1; simp only [Chain] at a; omega
  | x :: l, [], h, a, b => by have := a.1; have := a.2.1; simp only [Chain] at b; omega
  | x :: l, y :: l', h, a, b => by
    have e : x = y := by have := a.1; have := b.1; omega
    subst e
    rw [chain_unique a.2.2 b.2.2]
theorem Inv.fl_unique {f : Nat → Int} {fl fl' : Nat → List Nat} {k k' : Nat} (h : Inv f fl k) (h' : Inv f fl' k') {c : Nat} (hc : c < 16) : fl c = fl' c := chain_unique (h.chain c hc) (h'.chain c hc)
theorem sameBut_fl {f f' : Nat → Int} {fl fl' : Nat → List Nat} {k k' : Nat} (e : SameBut f f') (h : Inv f fl k) (h' : Inv f' fl' k') {c : Nat} (hc : c < 16) : fl' c = fl c := by
  have h1 := h'.chain c hc
  have h2 : Chain f' (lst f c) (fl c) := chain_congr (fun y hy => e.nxt y (h.mem c hc y hy).1) (h.chain c hc)
  rw [← e.lst c hc] at h2
  exact chain_unique h1 h2
def uV (f : Nat → Int) : Nat → Value := fun c => .bool (decide ((c : Int) < fresh f))
def uIn (f : Nat → Int) (x i : Nat) : Nat → Value := fun c => .bool (if x ≤ c ∧ c < x + i then true else decide ((c : Int) < fresh f))
theorem fresh_init (G : Int) : fresh (initF G) = 2 := by unfold fresh; rw [initF_at, if_neg (by omega), if_pos (by omega)]
theorem boot_init (G : Int) : boot (initF G) = G := by unfold boot; rw [initF_at, if_neg (by omega), if_neg (by omega), if_pos (by omega)]
theorem uV_start (G : Int) : C (arrL 4096 (updV (updV (fun _ => .bool false) 0 (.bool true)) 1 (.bool true))) 62 = C (arrL 4096 (uV (initF G))) 62 := arr_obj fun c hc => by
  simp only [uV, updV, fresh_init]
  by_cases e : c = 1
  · rw [if_pos e, decide_eq_true (by omega)]
  · rw [if_neg e]
    by_cases e2 : c = 0
    · rw [if_pos e2, decide_eq_true (by omega)]
    · rw [if_neg e2, decide_eq_false (by omega)]
theorem uIn_zero (f : Nat → Int) (x : Nat) : C (arrL 4096 (uV f)) 62 = C (arrL 4096 (uIn f x 0)) 62 := arr_obj fun c hc => by
  simp only [uIn, uV]; rw [if_neg (by omega)]
theorem uIn_succ (f : Nat → Int) (x i : Nat) : C (arrL 4096 (updV (uIn f x i) (x + i) (.bool true))) 62 = C (arrL 4096 (uIn f x (i + 1))) 62 := arr_obj fun c hc => by
  simp only [uIn, updV]
  by_cases e : c = x + i
  · rw [if_pos e, e, if_pos (by omega)]
  · rw [if_neg e]
    by_cases e2 : x ≤ c ∧ c < x + i
    · rw [if_pos e2, if_pos (by omega)]
    · rw [if_neg e2, if_neg (by omega)]
theorem uV_same {f f' : Nat → Int} (h : fresh f' = fresh f) : C (arrL 4096 (uV f)) 62 = C (arrL 4096 (uV f')) 62 := arr_obj fun c hc => by
  simp only [uV]; rw [h]
theorem uIn_all {f f' : Nat → Int} {fl fl' : Nat → List Nat} {k x s i : Nat} (hI : Inv f' fl' k) (h : AllocOk f f' fl fl' x s) (hi : i = s) : C (arrL 4096 (uIn f x i)) 62 = C (arrL 4096 (uV f')) 62 := arr_obj fun c hc => by
  subst hi
  have hx := h.xs
  have hs := h.s1
  have hr : role f' x = 1 := by rw [h.rl x (by omega), if_pos (by omega), if_pos rfl]
  obtain ⟨s', hs'⟩ := hI.head x (by omega) (.inl hr)
  have hsz := hs'.size
  rw [h.szz x (by omega), if_pos rfl] at hsz
  have hle := hs'.le
  simp only [uIn, uV]
  by_cases e : x ≤ c ∧ c < x + i
  · rw [if_pos e, decide_eq_true (by omega)]
  · rw [if_neg e]
    congr 1
    rcases h.which with q | q
    · rw [q.2.1]
    · obtain ⟨_, _, q1, q2, _⟩ := q
      rw [q1, q2]
      exact decide_eq_decide.2 (by omega)
/-- the law's own tables -/
structure J8 (G : Int) (f : Nat → Int) (fl : Nat → List Nat) (k : Nat) (p : List (Int × Value) × List (Int × Value)) : Prop where
  bt : boot f = G
  sizes : J6 f p.1
  wait : ∀ c : Nat, c < 16 → (mget p.2 (((c + 1) * 2 : Nat) : Int)).getD (.int .i64 0) = .int .i64 ((fl c).length : Int) ∧ (fl c).length ≤ k
theorem J8.start (G : Int) (h0 : 0 ≤ G) (h1 : G ≤ 281474976710655) : J8 G (initF G) (fun _ => []) 0 ([], []) :=
  ⟨boot_init G, J6.start G h0 h1, fun c hc => ⟨rfl, Nat.le_refl _⟩⟩
theorem J8.same {G : Int} {f f' : Nat → Int} {fl fl' : Nat → List Nat} {k : Nat} {p : List (Int × Value) × List (Int × Value)} (h : J8 G f fl k p) (e : SameBut f f') (hI : Inv f fl k) (hI' : Inv f' fl' (k + 1)) : J8 G f' fl' (k + 1) p :=
  ⟨by rw [e.boot]; exact h.bt, h.sizes.same e, fun c hc => by rw [sameBut_fl e hI hI' hc]; exact ⟨(h.wait c hc).1, Nat.le_succ_of_le (h.wait c hc).2⟩⟩
theorem J8.at_ {G : Int} {f : Nat → Int} {fl : Nat → List Nat} {k : Nat} {p : List (Int × Value) × List (Int × Value)} (h : J8 G f fl k p) {s : Nat} (s1 : 2 ≤ s) (s2 : s ≤ 32) (s3 : s % 2 = 0) :
    (mget p.2 (s : Int)).getD (.int .i64 0) = .int .i64 ((fl (s / 2 - 1)).length : Int) ∧ (fl (s / 2 - 1)).length ≤ k := by
  have := h.wait (s / 2 - 1) (by omega)
  rw [show (s / 2 - 1 + 1) * 2 = s by omega] at this
  exact this
theorem J8.carve {G : Int} {f f' : Nat → Int} {fl flx fl' : Nat → List Nat} {k x s r0 : Nat} {p : List (Int × Value) × List (Int × Value)} (h : J8 G f fl k p) (e : AllocOk f f' fl flx x s) (hr0 : r0 = ((gen f x).toNat + 1) * 65536 + x)
    (hIx : Inv f' flx (k + 1)) (hI' : Inv f' fl' (k + 1)) (hx : ¬ (x : Int) < fresh f) : J8 G f' fl' (k + 1) (mput p.1 (r0 : Int) (.int .i64 s), p.2) := by
  rcases e.which with q | q
  · exact absurd q.2.2.1 hx
  · obtain ⟨_, _, _, _, q5, _⟩ := q
    refine ⟨by rw [e.bt]; exact h.bt, h.sizes.alloc e hr0, fun c hc => ?_⟩
    rw [← hIx.fl_unique hI' hc, q5]
    exact ⟨(h.wait c hc).1, Nat.le_succ_of_le (h.wait c hc).2⟩
theorem J8.pop {G : Int} {f f' : Nat → Int} {fl flx fl' : Nat → List Nat} {k x s r0 : Nat} {p : List (Int × Value) × List (Int × Value)} (h : J8 G f fl k p) (e : AllocOk f f' fl flx x s) (hr0 : r0 = ((gen f x).toNat + 1) * 65536 + x)
    (hIx : Inv f' flx (k + 1)) (hI' : Inv f' fl' (k + 1)) (hx : (x : Int) < fresh f) : 1 ≤ (fl (s / 2 - 1)).length ∧ J8 G f' fl' (k + 1) (mput p.1 (r0 : Int) (.int .i64 s), mput p.2 (s : Int) (.int .i64 (((fl (s / 2 - 1)).length : Int) - 1))) := by
  have hs1 := e.s1
  have hs2 := e.s2
  have hs3 := e.s3
  rcases e.which with q | q
  · obtain ⟨_, _, _, l, q4, q5⟩ := q
    refine ⟨by rw [q4]; simp, by rw [e.bt]; exact h.bt, h.sizes.alloc e hr0, fun c hc => ?_⟩
    rw [← hIx.fl_unique hI' hc, q5, mget_mput]
    dsimp only
    by_cases ec : c = s / 2 - 1
    · have hw := (h.wait c hc).2
      rw [ec, q4] at hw
      simp only [List.length_cons] at hw
      rw [if_pos (by omega), if_pos ec, q4]
      refine ⟨?_, by omega⟩
      simp
    · rw [if_neg (by omega), if_neg ec]
      exact ⟨(h.wait c hc).1, Nat.le_succ_of_le (h.wait c hc).2⟩
  · obtain ⟨_, _, q3, _⟩ := q
    omega
theorem J8.spend {G : Int} {f f' : Nat → Int} {fl flx fl' : Nat → List Nat} {k s r0 : Nat} {p : List (Int × Value) × List (Int × Value)} (h : J8 G f fl k p) (hj : judgeF f r0 = 0) (e : FreeOk f f' fl flx (r0 % 65536) s)
    (hIx : Inv f' flx (k + 1)) (hI' : Inv f' fl' (k + 1)) (hg : ¬ ((r0 / 65536 : Nat) : Int) < 281474976710655) (hI : Inv f fl k) : J8 G f' fl' (k + 1) p := by
  have hl := judge_live hj
  have hgs := hI.gens _ (judge_addr hj).2
  have q := e.fls
  rw [if_pos (by omega)] at q
  refine ⟨by rw [e.bt]; exact h.bt, h.sizes.free hj e, fun c hc => ?_⟩
  rw [← hIx.fl_unique hI' hc, q]
  exact ⟨(h.wait c hc).1, Nat.le_succ_of_le (h.wait c hc).2⟩
theorem J8.push {G : Int} {f f' : Nat → Int} {fl flx fl' : Nat → List Nat} {k s r0 : Nat} {p : List (Int × Value) × List (Int × Value)} (h : J8 G f fl k p) (hj : judgeF f r0 = 0) (e : FreeOk f f' fl flx (r0 % 65536) s)
    (hIx : Inv f' flx (k + 1)) (hI' : Inv f' fl' (k + 1)) (hg : ((r0 / 65536 : Nat) : Int) < 281474976710655) : J8 G f' fl' (k + 1) (p.1, mput p.2 (s : Int) (.int .i64 (((fl (s / 2 - 1)).length : Int) + 1))) := by
  have hl := judge_live hj
  have q := e.fls
  have hs1 := e.s1
  have hs2 := e.s2
  have hs3 := e.s3
  rw [if_neg (by omega)] at q
  refine ⟨by rw [e.bt]; exact h.bt, h.sizes.free hj e, fun c hc => ?_⟩
  rw [← hIx.fl_unique hI' hc, q, mget_mput]
  dsimp only
  by_cases ec : c = s / 2 - 1
  · have hw := (h.wait c hc).2
    rw [ec] at hw
    rw [if_pos (by omega), if_pos ec, ec]
    refine ⟨?_, by simp only [List.length_cons]; omega⟩
    simp
  · rw [if_neg (by omega), if_neg ec]
    exact ⟨(h.wait c hc).1, Nat.le_succ_of_le (h.wait c hc).2⟩
/-- an Alloc of a lawful size -/
theorem doF_lawful (f : Nat → Int) (o : MOp) (hk : o.kd = 5) (h1 : 1 ≤ o.a) (h2 : o.a ≤ 32) : (doF f o).ans.st = 0 ∨ ((doF f o).ans.st = 4 ∧ lst f ((o.a + 1) / 2 * 2 / 2 - 1) = 0 ∧ ¬ (fresh f + (((o.a + 1) / 2 * 2 : Nat) : Int) ≤ 4096 ∧ boot f < 281474976710655)) := by
  unfold doF
  rw [if_neg (by omega), if_neg (by omega), if_neg (by omega), if_neg (by omega), if_neg (by omega), if_pos hk, if_neg (by omega)]
  unfold allocF
  rw [if_neg (by omega)]
  by_cases c2 : lst f ((o.a + 1) / 2 * 2 / 2 - 1) ≠ 0
  · simp only [if_pos c2]; exact .inl trivial
  simp only [if_neg c2]
  by_cases c3 : fresh f + (((o.a + 1) / 2 * 2 : Nat) : Int) ≤ 4096 ∧ boot f < 281474976710655
  · simp only [if_pos c3]; exact .inl trivial
  · simp only [if_neg c3]; exact .inr ⟨trivial, by omega, c3⟩
theorem Inv.empty {f : Nat → Int} {fl : Nat → List Nat} {k : Nat} (h : Inv f fl k) {c : Nat} (hc : c < 16) (h0 : lst f c = 0) : fl c = [] := by
  have := h.chain c hc
  rw [h0] at this
  cases hfl : fl c with
  | nil => rfl
  | cons y l => rw [hfl] at this; have a1 := this.1; have a2 := this.2.1; omega
theorem gen_yes (b : Nat) (f : Nat → Int) (x : Nat) (X : Int) (hX : X = x) (h : 2 ≤ x ∧ x < 4096) : Sp Try.prog 22 #[.pointer (some ⟨b, 0, none⟩), .int .u32 X] [(b, C (encL f) 87)] (fun v F' => v = .tuple #[.int .u64 (gen f x), .int .u8 0] ∧ F' = [(b, C (encL f) 87)]) := by
  subst hX
  have := gen_spec b f x
  rw [if_pos h] at this
  exact this
theorem gen_init (G : Int) : gen (initF G) 2 = G := by unfold gen; rw [initF_at, if_pos (by omega)]


set_option maxHeartbeats 1000000 in
theorem longest_spec (b : Nat) (f : Nat → Int) (x : Nat) (hx : fresh f = x) (hx2 : x ≤ 4096) : Sp Try.prog 32 #[.pointer (some ⟨b, 0, none⟩)] [(b, C (arrL 4096 (uV f)) 62)] (fun v F' => v = .int .i64 ((4096 - x : Nat) : Int) ∧ F' = [(b, C (arrL 4096 (uV f)) 62)]) := by
  refine f_enter (args := [.pointer (some ⟨b, 0, none⟩)]) Try.func32 rfl Try.ntmps32 rfl ?_
  intro w0 w a hpre hl hh
  simp only [slotsFrom, Nat.reduceAdd] at hl
  refine c_seq ?_
  refine c_region ?_
  refine wl (wl_val hl rfl trivial (r_assign hl rfl) ?_)
  clear hl a; intro a hl
  refine w_nil ?_
  have hl2 := hl.add (t := 0) (hl.nil) rfl; clear hl; have hl := hl2; clear hl2
  refine then_normal ?_
  refine c_seq ?_
  refine c_region ?_
  refine wl (wl_val hl rfl trivial (r_assign hl rfl) ?_)
  clear hl a; intro a hl
  refine wl (wl_val hl rfl trivial (r_assign hl rfl) ?_)
  clear hl a; intro a hl
  refine w_nil ?_
  have hl2 := hl.add (t := 0) (hl.add (t := 3) (hl.add (t := 4) (hl.nil) rfl) rfl) rfl; clear hl; have hl := hl2; clear hl2
  refine then_normal ?_
  refine c_seq ?_
  refine c_seq ?_
  refine c_region ?_
  refine wl (wl_val hl rfl trivial (r_move hl rfl) ?_)
  clear hl a; intro a hl
  refine wl (wl_val hl rfl trivial (r_move hl rfl) ?_)
  clear hl a; intro a hl
  refine w_nil ?_
  have hl2 := hl.add (t := 3) (hl.add (t := 4) (hl.add (t := 7) (hl.add (t := 8) (hl.nil) rfl) rfl) rfl) rfl; clear hl; have hl := hl2; clear hl2
  refine then_normal ?_
  refine wp_block ?_
  obtain ⟨KS0, hKS0, hk⟩ := (hl.add (t := 7) (hl.nil) rfl).name
  obtain ⟨HS0, hHS0, hh2⟩ := hh.name (keeps_nil)
  refine c_loop (α := Nat) (fun i => 4096 - i) (fun i a w => (i ≤ 4096) ∧ Sl 22 ([(8, .int .i64 i), (3, .int .i64 ((i - x : Nat) : Int)), (4, .int .i64 ((i - x : Nat) : Int))] ++ KS0) a ∧ Has _ w0 ([] ++ HS0) w) 0 ⟨(by omega), hl.addE (t := 8) (hl.addE (t := 3) (hl.addE (t := 4) (hk) rfl (by first | (exact congrArg (Value.int .i64) (by omega)) | rfl)) rfl (by first | (exact congrArg (Value.int .i64) (by omega)) | rfl)) rfl (by first | (exact congrArg (Value.int .i64) (by omega)) | rfl), hh2⟩ ?_
  clear hk hh2 hl hh a w
  intro i a w hI
  obtain ⟨hi2, hl, hh⟩ := hI
  subst hKS0; subst hHS0
  simp only [List.cons_append, List.nil_append, List.append_nil] at hl hh
  refine c_seq ?_
  refine c_region ?_
  refine wl (wl_val hl rfl trivial (r_lss hl rfl rfl) ?_)
  clear hl a; intro a hl
  refine w_nil ?_
  have hl2 := hl.add (t := 3) (hl.add (t := 4) (hl.add (t := 7) (hl.add (t := 8) (hl.add (t := 9) (hl.nil) rfl) rfl) rfl) rfl) rfl; clear hl; have hl := hl2; clear hl2
  refine then_normal ?_
  refine c_seq ?_
  refine c_cond hl rfl ?_ ?_
  · intro hc0
    try simp only [decide_eq_true_eq, decide_eq_false_iff_not, Bool.not_eq_true', Bool.not_eq_false', Bool.not_eq_true, Bool.not_eq_false, Bool.and_eq_true, Bool.or_eq_true, Bool.and_eq_false_iff, Bool.or_eq_false_iff, Bool.not_not, ne_eq, Int.not_lt, Int.not_le, Decidable.not_not, beq_iff_eq, bne_iff_ne] at hc0
    refine wp_skip ?_
    refine then_normal ?_
    refine c_seq ?_
    refine wp_block ?_
    refine c_seq ?_
    refine c_region ?_
    refine wl (wl_val hl rfl trivial (r_nilCheck hl rfl) ?_)
    clear hl a; intro a hl
    refine wl (wl_val hl rfl trivial (r_indexA hl rfl rfl arr62 (by omega) (by omega) (by first | (simp only [Int.reduceToNat]; rfl) | exact toNat_add1 _ | exact toNat_add2 _ _ | exact toNat_emod _ _ | exact Int.toNat_natCast _ | rfl)) ?_)
    clear hl a; intro a hl
    refine wl (w_load hl hh rfl trivial one4 rfl (by repeat (first | exact find_head | apply find_tail)) (by exact arr_load (by omega)) ?_)
    clear hl a; intro a hl
    have hub : uV f i = .bool (decide (i < x)) := by simp only [uV, hx]; exact congrArg Value.bool (decide_eq_decide.2 (by omega))
    rw [hub] at hl
    refine wl (wl_val hl rfl trivial (r_assign hl rfl) ?_)
    clear hl a; intro a hl
    refine w_nil ?_
    have hl2 := hl.add (t := 3) (hl.add (t := 4) (hl.add (t := 6) (hl.add (t := 7) (hl.add (t := 8) (hl.nil) rfl) rfl) rfl) rfl) rfl; clear hl; have hl := hl2; clear hl2
    refine then_normal ?_
    refine c_seq ?_
    refine c_seq ?_
    refine c_region ?_
    refine wl (wl_val hl rfl trivial (r_move hl rfl) ?_)
    clear hl a; intro a hl
    refine w_nil ?_
    have hl2 := hl.add (t := 3) (hl.add (t := 4) (hl.add (t := 7) (hl.add (t := 8) (hl.add (t := 13) (hl.nil) rfl) rfl) rfl) rfl) rfl; clear hl; have hl := hl2; clear hl2
    refine then_normal ?_
    refine c_cond hl rfl ?_ ?_
    · intro hc1
      try simp only [decide_eq_true_eq, decide_eq_false_iff_not, Bool.not_eq_true', Bool.not_eq_false', Bool.not_eq_true, Bool.not_eq_false, Bool.and_eq_true, Bool.or_eq_true, Bool.and_eq_false_iff, Bool.or_eq_false_iff, Bool.not_not, ne_eq, Int.not_lt, Int.not_le, Decidable.not_not, beq_iff_eq, bne_iff_ne] at hc1
      refine c_seq ?_
      refine c_region ?_
      refine wl (wl_val hl rfl trivial (r_assign hl rfl) ?_)
      clear hl a; intro a hl
      refine w_nil ?_
      have hl2 := hl.add (t := 3) (hl.add (t := 4) (hl.add (t := 7) (hl.add (t := 8) (hl.nil) rfl) rfl) rfl) rfl; clear hl; have hl := hl2; clear hl2
      refine then_normal ?_
      refine wp_exit ?_
      refine then_exit ?_
      refine blk_exit ?_
      refine then_normal ?_
      refine c_region ?_
      first | refine wl (wl_val hl rfl trivial (r_add hl rfl rfl (by simp only [Fits]; omega)) ?_) | refine wl (wl_val hl rfl trivial (r_addW hl rfl rfl) ?_)
      clear hl a; intro a hl
      refine wl (wl_val hl rfl trivial (r_move hl rfl) ?_)
      clear hl a; intro a hl
      refine w_nil ?_
      have hl2 := hl.add (t := 3) (hl.add (t := 4) (hl.add (t := 7) (hl.add (t := 8) (hl.nil) rfl) rfl) rfl) rfl; clear hl; have hl := hl2; clear hl2
      refine then_normal ?_
      refine ⟨i + 1, (by omega), (by omega), hl.addE (t := 8) (hl.addE (t := 3) (hl.addE (t := 4) (hl.addE (t := 7) (hl.nil) rfl (by first | rfl | (congr 1; omega) | (exact congrArg (Value.int .i64) (by omega)))) rfl (by first | rfl | (congr 1; omega) | (exact congrArg (Value.int .i64) (by omega)))) rfl (by first | rfl | (congr 1; omega) | (exact congrArg (Value.int .i64) (by omega)))) rfl (by first | rfl | (congr 1; omega) | (exact congrArg (Value.int .i64) (by omega))), hh.keep (by repeat (first | exact keeps_nil | apply keeps_cons (by repeat (first | exact find_head | apply find_tail)) (by first  | rfl) | exact keeps_self | apply keeps_mv))⟩
    · intro hc1
      try simp only [decide_eq_true_eq, decide_eq_false_iff_not, Bool.not_eq_true', Bool.not_eq_false', Bool.not_eq_true, Bool.not_eq_false, Bool.and_eq_true, Bool.or_eq_true, Bool.and_eq_false_iff, Bool.or_eq_false_iff, Bool.not_not, ne_eq, Int.not_lt, Int.not_le, Decidable.not_not, beq_iff_eq, bne_iff_ne] at hc1
      refine wp_skip ?_
      refine then_normal ?_
      refine c_seq ?_
      refine c_region ?_
      refine wl (wl_val hl rfl trivial (r_move hl rfl) ?_)
      clear hl a; intro a hl
      first | refine wl (wl_val hl rfl trivial (r_add hl rfl rfl (by simp only [Fits]; omega)) ?_) | refine wl (wl_val hl rfl trivial (r_addW hl rfl rfl) ?_)
      clear hl a; intro a hl
      refine wl (wl_val hl rfl trivial (r_assign hl rfl) ?_)
      clear hl a; intro a hl
      refine w_nil ?_
      have hl2 := hl.add (t := 3) (hl.add (t := 4) (hl.add (t := 7) (hl.add (t := 8) (hl.nil) rfl) rfl) rfl) rfl; clear hl; have hl := hl2; clear hl2
      refine then_normal ?_
      refine c_seq ?_
      refine c_region ?_
      refine wl (wl_val hl rfl trivial (r_move hl rfl) ?_)
      clear hl a; intro a hl
      refine wl (wl_val hl rfl trivial (r_move hl rfl) ?_)
      clear hl a; intro a hl
      refine wl (wl_val hl rfl trivial (r_gtr hl rfl rfl) ?_)
      clear hl a; intro a hl
      refine w_nil ?_
      have hl2 := hl.add (t := 3) (hl.add (t := 4) (hl.add (t := 7) (hl.add (t := 8) (hl.add (t := 18) (hl.nil) rfl) rfl) rfl) rfl) rfl; clear hl; have hl := hl2; clear hl2
      refine then_normal ?_
      refine c_cond hl rfl ?_ ?_
      · intro hc2
        try simp only [decide_eq_true_eq, decide_eq_false_iff_not, Bool.not_eq_true', Bool.not_eq_false', Bool.not_eq_true, Bool.not_eq_false, Bool.and_eq_true, Bool.or_eq_true, Bool.and_eq_false_iff, Bool.or_eq_false_iff, Bool.not_not, ne_eq, Int.not_lt, Int.not_le, Decidable.not_not, beq_iff_eq, bne_iff_ne] at hc2
        refine c_region ?_
        refine wl (wl_val hl rfl trivial (r_move hl rfl) ?_)
        clear hl a; intro a hl
        refine wl (wl_val hl rfl trivial (r_assign hl rfl) ?_)
        clear hl a; intro a hl
        refine w_nil ?_
        have hl2 := hl.add (t := 3) (hl.add (t := 4) (hl.add (t := 7) (hl.add (t := 8) (hl.nil) rfl) rfl) rfl) rfl; clear hl; have hl := hl2; clear hl2
        refine blk_normal ?_
        refine then_normal ?_
        refine c_region ?_
        first | refine wl (wl_val hl rfl trivial (r_add hl rfl rfl (by simp only [Fits]; omega)) ?_) | refine wl (wl_val hl rfl trivial (r_addW hl rfl rfl) ?_)
        clear hl a; intro a hl
        refine wl (wl_val hl rfl trivial (r_move hl rfl) ?_)
        clear hl a; intro a hl
        refine w_nil ?_
        have hl2 := hl.add (t := 3) (hl.add (t := 4) (hl.add (t := 7) (hl.add (t := 8) (hl.nil) rfl) rfl) rfl) rfl; clear hl; have hl := hl2; clear hl2
        refine then_normal ?_
        refine ⟨i + 1, (by omega), (by omega), hl.addE (t := 8) (hl.addE (t := 3) (hl.addE (t := 4) (hl.addE (t := 7) (hl.nil) rfl (by first | rfl | (congr 1; omega) | (exact congrArg (Value.int .i64) (by omega)))) rfl (by first | rfl | (congr 1; omega) | (exact congrArg (Value.int .i64) (by omega)))) rfl (by first | rfl | (congr 1; omega) | (exact congrArg (Value.int .i64) (by omega)))) rfl (by first | rfl | (congr 1; omega) | (exact congrArg (Value.int .i64) (by omega))), hh.keep (by repeat (first | exact keeps_nil | apply keeps_cons (by repeat (first | exact find_head | apply find_tail)) (by first  | rfl) | exact keeps_self | apply keeps_mv))⟩
      · intro hc2
        try simp only [decide_eq_true_eq, decide_eq_false_iff_not, Bool.not_eq_true', Bool.not_eq_false', Bool.not_eq_true, Bool.not_eq_false, Bool.and_eq_true, Bool.or_eq_true, Bool.and_eq_false_iff, Bool.or_eq_false_iff, Bool.not_not, ne_eq, Int.not_lt, Int.not_le, Decidable.not_not, beq_iff_eq, bne_iff_ne] at hc2
        refine wp_skip ?_
        refine blk_normal ?_
        refine then_normal ?_
        refine c_region ?_
        first | refine wl (wl_val hl rfl trivial (r_add hl rfl rfl (by simp only [Fits]; omega)) ?_) | refine wl (wl_val hl rfl trivial (r_addW hl rfl rfl) ?_)
        clear hl a; intro a hl
        refine wl (wl_val hl rfl trivial (r_move hl rfl) ?_)
        clear hl a; intro a hl
        refine w_nil ?_
        have hl2 := hl.add (t := 3) (hl.add (t := 4) (hl.add (t := 7) (hl.add (t := 8) (hl.nil) rfl) rfl) rfl) rfl; clear hl; have hl := hl2; clear hl2
        refine then_normal ?_
        refine ⟨i + 1, (by omega), (by omega), hl.addE (t := 8) (hl.addE (t := 3) (hl.addE (t := 4) (hl.addE (t := 7) (hl.nil) rfl (by first | rfl | (congr 1; omega) | (exact congrArg (Value.int .i64) (by omega)))) rfl (by first | rfl | (congr 1; omega) | (exact congrArg (Value.int .i64) (by omega)))) rfl (by first | rfl | (congr 1; omega) | (exact congrArg (Value.int .i64) (by omega)))) rfl (by first | rfl | (congr 1; omega) | (exact congrArg (Value.int .i64) (by omega))), hh.keep (by repeat (first | exact keeps_nil | apply keeps_cons (by repeat (first | exact find_head | apply find_tail)) (by first  | rfl) | exact keeps_self | apply keeps_mv))⟩
  · intro hc0
    try simp only [decide_eq_true_eq, decide_eq_false_iff_not, Bool.not_eq_true', Bool.not_eq_false', Bool.not_eq_true, Bool.not_eq_false, Bool.and_eq_true, Bool.or_eq_true, Bool.and_eq_false_iff, Bool.or_eq_false_iff, Bool.not_not, ne_eq, Int.not_lt, Int.not_le, Decidable.not_not, beq_iff_eq, bne_iff_ne] at hc0
    refine wp_exit ?_
    refine then_exit ?_
    refine then_exit ?_
    refine blk_exit ?_
    refine then_normal ?_
    refine c_seq ?_
    refine c_region ?_
    refine wl (wl_val hl rfl trivial (r_move hl rfl) ?_)
    clear hl a; intro a hl
    refine wl (wl_val hl rfl trivial (r_assign hl rfl) ?_)
    clear hl a; intro a hl
    refine w_nil ?_
    have hl2 := hl.add (t := 2) (hl.nil) rfl; clear hl; have hl := hl2; clear hl2
    refine then_normal ?_
    refine wp_ret ?_
    refine f_ret1 (F' := [(b, C (arrL 4096 (uV f)) 62)]) hl hh rfl rfl (by repeat (first | exact keeps_nil | apply keeps_cons (by repeat (first | exact find_head | apply find_tail)) (by first  | rfl) | exact keeps_self | apply keeps_mv)) ?_
    exact ⟨congrArg (Value.int .i64) (by omega), rfl⟩

set_option maxHeartbeats 1000000 in
theorem law8 (sb : Nat) (c : List Value) (T : TypeId) (fr : Nat × Nat) (p : Option Addr) (n cap : Nat) (ops : List MOp) (hn : n = ops.length) (hlen : n ≤ 9223372036854775807) (h : Ops sb c p cap ops) : SpK Try.prog 8 #[.slice p n cap] (OpsIn sb c T fr ops) [] (fun v F' => v = .bool true ∧ F' = []) := by
  refine f_enter (args := [.slice p n cap]) Try.func8 rfl Try.ntmps8 rfl ?_
  intro w0 w a hpre hl hh
  simp only [slotsFrom, Nat.reduceAdd] at hl
  refine c_seq ?_
  refine c_region ?_
  refine wl (wl_val hl rfl trivial (r_assign hl rfl) ?_)
  clear hl a; intro a hl
  refine w_nil ?_
  have hl2 := hl.add (t := 0) (hl.nil) rfl; clear hl; have hl := hl2; clear hl2
  refine then_normal ?_
  refine c_seq ?_
  refine c_seq ?_
  refine c_region ?_
  refine wl (wl_val hl rfl trivial (r_move hl rfl) ?_)
  clear hl a; intro a hl
  refine wl (w_call hl hh rfl trivial rfl cal12 rfl (small_spec p n cap hlen) (by repeat (first | exact keeps_nil | apply keeps_cons (by repeat (first | exact find_head | apply find_tail)) (by first  | rfl) | exact keeps_self | apply keeps_mv)) trivial ?_)
  clear hl hh a w; intro vc Fc a w hR hl hh
  obtain ⟨rfl, rfl⟩ := hR
  try simp only [List.cons_append, List.nil_append] at hh
  refine wl (wl_val hl rfl trivial (r_not hl rfl) ?_)
  clear hl a; intro a hl
  refine w_nil ?_
  have hl2 := hl.add (t := 0) (hl.add (t := 21) (hl.nil) rfl) rfl; clear hl; have hl := hl2; clear hl2
  refine then_normal ?_
  refine c_cond hl rfl ?_ ?_
  · intro hc0
    try simp only [decide_eq_true_eq, decide_eq_false_iff_not, Bool.not_eq_true', Bool.not_eq_false', Bool.not_eq_true, Bool.not_eq_false, Bool.and_eq_true, Bool.or_eq_true, Bool.and_eq_false_iff, Bool.or_eq_false_iff, Bool.not_not, ne_eq, Int.not_lt, Int.not_le, Decidable.not_not, beq_iff_eq, bne_iff_ne] at hc0
    refine c_seq ?_
    refine c_region ?_
    refine wl (wl_val hl rfl trivial (r_assign hl rfl) ?_)
    clear hl a; intro a hl
    refine w_nil ?_
    have hl2 := hl.add (t := 2) (hl.nil) rfl; clear hl; have hl := hl2; clear hl2
    refine then_normal ?_
    refine wp_ret ?_
    refine then_ret ?_
    refine f_ret1 (F' := []) hl hh rfl rfl (by repeat (first | exact keeps_nil | apply keeps_cons (by repeat (first | exact find_head | apply find_tail)) (by first  | rfl) | exact keeps_self | apply keeps_mv)) ?_
    exact ⟨rfl, rfl⟩
  · intro hc0
    try simp only [decide_eq_true_eq, decide_eq_false_iff_not, Bool.not_eq_true', Bool.not_eq_false', Bool.not_eq_true, Bool.not_eq_false, Bool.and_eq_true, Bool.or_eq_true, Bool.and_eq_false_iff, Bool.or_eq_false_iff, Bool.not_not, ne_eq, Int.not_lt, Int.not_le, Decidable.not_not, beq_iff_eq, bne_iff_ne] at hc0
    refine wp_skip ?_
    refine then_normal ?_
    refine c_seq ?_
    refine c_region ?_
    refine wl (wl_val hl rfl trivial (r_move hl rfl) ?_)
    clear hl a; intro a hl
    refine wl (w_call hl hh rfl trivial rfl cal13 rfl (start_spec sb c T fr p n cap ops hn h) (by repeat (first | exact keeps_nil | apply keeps_cons (by repeat (first | exact find_head | apply find_tail)) (by first  | rfl) | exact keeps_self | apply keeps_mv)) (OpsIn.keep (fun b hb => hh.frm.block b hb (by simp)) hpre) ?_)
    clear hl hh a w; intro vc Fc a w hR hl hh
    obtain ⟨gb, b, p2, n2, cap2, steps, G, hn2, rfl, hO, hst, hG0, hG1, rfl⟩ := hR
    try simp only [List.cons_append, List.nil_append] at hh
    refine wl (wl_val hl rfl trivial (r_move hl rfl) ?_)
    clear hl a; intro a hl
    refine wl (wl_val hl rfl trivial (r_extract hl rfl (by simp only [List.getElem?_toArray, List.getElem?_cons_zero, List.getElem?_cons_succ]; rfl)) ?_)
    clear hl a; intro a hl
    refine wl (wl_val hl rfl trivial (r_extract hl rfl (by simp only [List.getElem?_toArray, List.getElem?_cons_zero, List.getElem?_cons_succ]; rfl)) ?_)
    clear hl a; intro a hl
    refine wl (wl_val hl rfl trivial (r_assign hl rfl) ?_)
    clear hl a; intro a hl
    refine wl (wl_val hl rfl trivial (r_assign hl rfl) ?_)
    clear hl a; intro a hl
    refine w_nil ?_
    have hl2 := hl.add (t := 3) (hl.add (t := 4) (hl.nil) rfl) rfl; clear hl; have hl := hl2; clear hl2
    refine then_normal ?_
    refine c_seq ?_
    refine c_region ?_
    refine wl (wl_val hl rfl trivial (r_move hl rfl) ?_)
    clear hl a; intro a hl
    refine wl (wl_val hl rfl trivial (r_nilCheck hl rfl) ?_)
    clear hl a; intro a hl
    refine wl (wl_val hl rfl trivial (r_field hl rfl fld41_0) ?_)
    clear hl a; intro a hl
    refine wl (w_load hl hh rfl trivial one38 rfl (by repeat (first | exact find_head | apply find_tail)) (by first | rfl) ?_)
    clear hl a; intro a hl
    refine wl (w_call hl hh rfl trivial rfl cal22 rfl (gen_yes b (initF G) 2 _ rfl (by omega)) (by repeat (first | exact keeps_nil | apply keeps_cons (by repeat (first | exact find_head | apply find_tail)) (by first  | rfl) | exact keeps_self | apply keeps_mv)) trivial ?_)
    clear hl hh a w; intro vc Fc a w hR hl hh
    obtain ⟨rfl, rfl⟩ := hR
    try simp only [List.cons_append, List.nil_append] at hh
    rw [gen_init] at hl
    refine wl (wl_val hl rfl trivial (r_move hl rfl) ?_)
    clear hl a; intro a hl
    refine wl (wl_val hl rfl trivial (r_extract hl rfl (by simp only [List.getElem?_toArray, List.getElem?_cons_zero, List.getElem?_cons_succ]; rfl)) ?_)
    clear hl a; intro a hl
    refine wl (wl_val hl rfl trivial (r_extract hl rfl (by simp only [List.getElem?_toArray, List.getElem?_cons_zero, List.getElem?_cons_succ]; rfl)) ?_)
    clear hl a; intro a hl
    refine wl (wl_val hl rfl trivial (r_assign hl rfl) ?_)
    clear hl a; intro a hl
    refine wl (wl_val hl rfl trivial (r_assign hl rfl) ?_)
    clear hl a; intro a hl
    refine w_nil ?_
    have hl2 := hl.add (t := 3) (hl.add (t := 4) (hl.add (t := 5) (hl.nil) rfl) rfl) rfl; clear hl; have hl := hl2; clear hl2
    refine then_normal ?_
    refine c_seq ?_
    refine c_region ?_
    refine wl (w_alloc hl hh rfl trivial zero62 rfl ?_)
    clear hl hh a w; intro k7 a w hl hh
    refine w_nil ?_
    have hl2 := hl.add (t := 3) (hl.add (t := 4) (hl.add (t := 5) (hl.add (t := 7) (hl.nil) rfl) rfl) rfl) rfl; clear hl; have hl := hl2; clear hl2
    refine then_normal ?_
    refine c_seq ?_
    refine c_region ?_
    refine wl (wl_val hl rfl trivial (r_indexA hl rfl rfl arr62 (by omega) (by omega) (by first | (simp only [Int.reduceToNat]; rfl) | exact toNat_add1 _ | exact toNat_add2 _ _ | exact toNat_emod _ _ | exact Int.toNat_natCast _ | rfl)) ?_)
    clear hl a; intro a hl
    refine wl (w_store hl hh trivial one4 rfl rfl (by repeat (first | exact find_head | apply find_tail)) (by rw [arrL_length]; omega) (by first | rfl | (apply Row.one; assumption)) (by exact arr_store (by omega)) ?_)
    clear hh w; intro w hh
    refine wl (wl_val hl rfl trivial (r_indexA hl rfl rfl arr62 (by omega) (by omega) (by first | (simp only [Int.reduceToNat]; rfl) | exact toNat_add1 _ | exact toNat_add2 _ _ | exact toNat_emod _ _ | exact Int.toNat_natCast _ | rfl)) ?_)
    clear hl a; intro a hl
    refine wl (w_store hl hh trivial one4 rfl rfl (by repeat (first | exact find_head | apply find_tail)) (by rw [arrL_length]; omega) (by first | rfl | (apply Row.one; assumption)) (by exact arr_store (by omega)) ?_)
    clear hh w; intro w hh
    refine w_nil ?_
    have hl2 := hl.add (t := 3) (hl.add (t := 4) (hl.add (t := 5) (hl.add (t := 7) (hl.nil) rfl) rfl) rfl) rfl; clear hl; have hl := hl2; clear hl2
    refine then_normal ?_
    refine c_seq ?_
    refine c_region ?_
    refine wl (w_makeMap (kInt .u64) hl hh rfl trivial ?_)
    clear hl hh a w; intro k37 a w hl hh
    refine wl (wl_val hl rfl trivial (r_assign hl rfl) ?_)
    clear hl a; intro a hl
    refine w_nil ?_
    have hl2 := hl.add (t := 3) (hl.add (t := 4) (hl.add (t := 5) (hl.add (t := 7) (hl.add (t := 8) (hl.nil) rfl) rfl) rfl) rfl) rfl; clear hl; have hl := hl2; clear hl2
    refine then_normal ?_
    refine c_seq ?_
    refine c_region ?_
    refine wl (w_makeMap (kInt .i64) hl hh rfl trivial ?_)
    clear hl hh a w; intro k38 a w hl hh
    refine wl (wl_val hl rfl trivial (r_assign hl rfl) ?_)
    clear hl a; intro a hl
    refine w_nil ?_
    have hl2 := hl.add (t := 3) (hl.add (t := 4) (hl.add (t := 5) (hl.add (t := 7) (hl.add (t := 8) (hl.add (t := 9) (hl.nil) rfl) rfl) rfl) rfl) rfl) rfl; clear hl; have hl := hl2; clear hl2
    refine then_normal ?_
    refine c_seq ?_
    refine c_seq ?_
    refine c_region ?_
    refine wl (wl_val hl rfl trivial (r_move hl rfl) ?_)
    clear hl a; intro a hl
    refine wl (wl_val hl rfl trivial (r_lenS hl rfl slc22) ?_)
    clear hl a; intro a hl
    refine wl (wl_val hl rfl trivial (r_move hl rfl) ?_)
    clear hl a; intro a hl
    refine w_nil ?_
    have hl2 := hl.add (t := 3) (hl.add (t := 5) (hl.add (t := 7) (hl.add (t := 8) (hl.add (t := 9) (hl.add (t := 39) (hl.add (t := 40) (hl.add (t := 41) (hl.nil) rfl) rfl) rfl) rfl) rfl) rfl) rfl) rfl; clear hl; have hl := hl2; clear hl2
    refine then_normal ?_
    refine wp_block ?_
    obtain ⟨KS0, hKS0, hk⟩ := (hl.add (t := 3) (hl.add (t := 5) (hl.add (t := 7) (hl.add (t := 8) (hl.add (t := 9) (hl.add (t := 39) (hl.add (t := 40) (hl.nil) rfl) rfl) rfl) rfl) rfl) rfl) rfl).name
    obtain ⟨HS0, hHS0, hh2⟩ := hh.name (keeps_cons (b := gb) (o' := C [.pointer (some ⟨b, 0, none⟩), .slice none 0 0] 41) (by repeat (first | exact find_head | apply find_tail)) (by first | exact uV_start G | rfl) (keeps_cons (b := b) (o' := C (encL (initF G)) 87) (by repeat (first | exact find_head | apply find_tail)) (by first | exact uV_start G | rfl) (keeps_cons (b := k7) (o' := C (arrL 4096 (uV (initF G))) 62) (by repeat (first | exact find_head | apply find_tail)) (by first | exact uV_start G | rfl) (keeps_cons (b := k37) (o' := MO (kInt .u64) []) (by repeat (first | exact find_head | apply find_tail)) (by first | exact uV_start G | rfl) (keeps_cons (b := k38) (o' := MO (kInt .i64) []) (by repeat (first | exact find_head | apply find_tail)) (by first | exact uV_start G | rfl) (keeps_nil))))))
    refine c_loop (α := LS × (List (Int × Value) × List (Int × Value))) (fun s => n2 - s.1.i) (fun s a w => (LI n2 s.1 ∧ (J8 G s.1.f s.1.fl s.1.i s.2)) ∧ Sl 155 ([(41, .int .i64 s.1.i)] ++ KS0) a ∧ Has _ w0 ([(gb, C [.pointer (some ⟨b, 0, none⟩), s.1.rv] 41), (b, C (encL s.1.f) 87), (k7, C (arrL 4096 (uV s.1.f)) 62), (k37, MO (kInt .u64) s.2.1), (k38, MO (kInt .i64) s.2.2)] ++ (HS0 ++ s.1.Er)) w) (⟨0, initF G, fun _ => [], [], .slice none 0 0, []⟩, ([], [])) ⟨⟨LI.start G hG0 hG1, J8.start G hG0 hG1⟩, hl.addE (t := 41) (hk) rfl (by first | rfl), (by rw [List.append_nil]; exact hh2)⟩ ?_
    clear hk hh2 hl hh a w
    intro s a w hI
    obtain ⟨⟨hI, hJ⟩, hl, hh⟩ := hI
    subst hKS0; subst hHS0
    simp only [List.cons_append, List.nil_append, List.append_nil] at hl hh
    refine c_seq ?_
    refine c_region ?_
    refine wl (wl_val hl rfl trivial (r_lss hl rfl rfl) ?_)
    clear hl a; intro a hl
    refine w_nil ?_
    have hl2 := hl.add (t := 3) (hl.add (t := 5) (hl.add (t := 7) (hl.add (t := 8) (hl.add (t := 9) (hl.add (t := 39) (hl.add (t := 40) (hl.add (t := 41) (hl.add (t := 42) (hl.nil) rfl) rfl) rfl) rfl) rfl) rfl) rfl) rfl) rfl; clear hl; have hl := hl2; clear hl2
    refine then_normal ?_
    refine c_seq ?_
    refine c_cond hl rfl ?_ ?_
    · intro hc1
      try simp only [decide_eq_true_eq, decide_eq_false_iff_not, Bool.not_eq_true', Bool.not_eq_false', Bool.not_eq_true, Bool.not_eq_false, Bool.and_eq_true, Bool.or_eq_true, Bool.and_eq_false_iff, Bool.or_eq_false_iff, Bool.not_not, ne_eq, Int.not_lt, Int.not_le, Decidable.not_not, beq_iff_eq, bne_iff_ne] at hc1
      have hi : s.1.i < n2 := by omega
      obtain ⟨so, rfl, hat⟩ := hO.at_ (by omega)
      obtain ⟨q, hq⟩ : ∃ q, steps[s.1.i]? = some q := ⟨_, List.getElem?_eq_getElem (by omega)⟩
      have hqv := hat s.1.i q hq
      have hqo := hO.ok q (List.mem_of_getElem? hq)
      have hm := hpre (by omega)
      obtain ⟨kd, x, A, B, E, D⟩ := q
      simp only [MOp.vals] at hqv
      refine wp_skip ?_
      refine then_normal ?_
      refine c_seq ?_
      refine wp_block ?_
      refine c_seq ?_
      refine c_region ?_
      refine wl (wl_val hl rfl trivial (r_indexS hl rfl rfl slc22 (by omega) (by omega) (by first | (simp only [Int.reduceToNat]; rfl) | exact toNat_add1 _ | exact toNat_add2 _ _ | exact toNat_emod _ _ | exact Int.toNat_natCast _ | rfl)) ?_)
      clear hl a; intro a hl
      first | refine wl (w_loadA hl hh rfl trivial agg36 rfl (by repeat (first | exact find_head | apply find_tail)) (by first | (simp only [List.getElem?_cons_zero, List.getElem?_cons_succ, Value.cells, List.take_zero, List.take_succ_cons, List.take_nil, List.drop_zero, List.drop_succ_cons, List.drop_nil, List.length_cons, List.length_nil, List.cons_append, List.nil_append, List.append_nil, Nat.zero_add, Nat.add_zero, Nat.reduceAdd, Nat.reduceBEq, Nat.reduceEqDiff, Nat.ble, BEq.rfl, Bool.and_true, Bool.and_self, cond_true, beq_self_eq_true]; rfl)) (by first | rfl | (simp; done)) ?_) | refine wl (w_loadRA hl hh rfl trivial agg36 rfl hm (by simp) hqv rfl ?_)
      clear hl a; intro a hl
      refine wl (w_alloc hl hh rfl trivial zero36 rfl ?_)
      clear hl hh a w; intro k11 a w hl hh
      refine wl (w_storeA hl hh trivial agg36 rfl rfl (by repeat (first | exact find_head | apply find_tail)) (by first | rfl | (simp; done)) (by first | (simp; done) | (simp; omega)) (by first | rfl | (simp; done)) (by first | (simp only [setL, List.getElem?_cons_zero, List.getElem?_cons_succ, Value.cells, List.take_zero, List.take_succ_cons, List.take_nil, List.drop_zero, List.drop_succ_cons, List.drop_nil, List.length_cons, List.length_nil, List.cons_append, List.nil_append, List.append_nil, Nat.zero_add, Nat.add_zero, Nat.reduceAdd, Nat.reduceBEq, Nat.reduceEqDiff, Nat.ble, BEq.rfl, Bool.and_true, Bool.and_self, cond_true, beq_self_eq_true]; rfl)) ?_)
      clear hh w; intro w hh
      refine w_nil ?_
      have hl2 := hl.add (t := 3) (hl.add (t := 5) (hl.add (t := 7) (hl.add (t := 8) (hl.add (t := 9) (hl.add (t := 11) (hl.add (t := 39) (hl.add (t := 40) (hl.add (t := 41) (hl.nil) rfl) rfl) rfl) rfl) rfl) rfl) rfl) rfl) rfl; clear hl; have hl := hl2; clear hl2
      refine then_normal ?_
      refine c_seq ?_
      refine c_draw [(gb, C [.pointer (some ⟨b, 0, none⟩), s.1.rv] 41), (k11, C [.int .u8 kd, .int .u32 x, .int .u64 A, .int .u64 B, .int .u64 E, .int .u64 D] 36)] [7] mixed hh ?_
      clear hh w; intro w hh
      have hM : Mem [(gb, C [.pointer (some ⟨b, 0, none⟩), s.1.rv] 41), (k11, C [.int .u8 kd, .int .u32 x, .int .u64 A, .int .u64 B, .int .u64 E, .int .u64 D] 36)] w := (by repeat (first | exact Mem.nil | refine Mem.cons hh.mem (by repeat (first | exact find_head | apply find_tail)) ?_ | refine Mem.consR hh (by assumption) (by simp) ?_))
      refine d_take (i := 0) hl rfl (by kernel_rfl) (by kernel_rfl) (by kernel_rfl) (by kernel_rfl) (by kernel_rfl) rfl trivial (fun _ _ _ h => h) hM (fun w hC => r_loadCA hl rfl agg36 hC (by repeat (first | exact find_head | apply find_tail)) (by first | (simp only [List.getElem?_cons_zero, List.getElem?_cons_succ, Value.cells, List.take_zero, List.take_succ_cons, List.take_nil, List.drop_zero, List.drop_succ_cons, List.drop_nil, List.length_cons, List.length_nil, List.cons_append, List.nil_append, List.append_nil, Nat.zero_add, Nat.add_zero, Nat.reduceAdd, Nat.reduceBEq, Nat.reduceEqDiff, Nat.ble, BEq.rfl, Bool.and_true, Bool.and_self, cond_true, beq_self_eq_true]; rfl)) (by first | rfl | (simp; done))) rfl ?_
      clear hl a; intro a hl
      refine d_take (i := 1) hl rfl (by kernel_rfl) (by kernel_rfl) (by kernel_rfl) (by kernel_rfl) (by kernel_rfl) rfl trivial (fun _ _ _ h => h) hM (fun w hC => r_move hl rfl) rfl ?_
      clear hl a; intro a hl
      refine d_take (i := 2) hl rfl (by kernel_rfl) (by kernel_rfl) (by kernel_rfl) (by kernel_rfl) (by kernel_rfl) rfl trivial (fun _ _ _ h => h) hM (fun w hC => r_nilCheck hl rfl) rfl ?_
      clear hl a; intro a hl
      refine d_take (i := 3) hl rfl (by kernel_rfl) (by kernel_rfl) (by kernel_rfl) (by kernel_rfl) (by kernel_rfl) rfl trivial (fun _ _ _ h => h) hM (fun w hC => r_field hl rfl fld41_1) rfl ?_
      clear hl a; intro a hl
      refine d_take (i := 4) hl rfl (by kernel_rfl) (by kernel_rfl) (by kernel_rfl) (by kernel_rfl) (by kernel_rfl) rfl trivial (fun _ _ _ h => h) hM (fun w hC => r_loadC hl rfl one39 hC (by repeat (first | exact find_head | apply find_tail)) (by first | rfl)) rfl ?_
      clear hl a; intro a hl
      refine d_two (i := 5) (j := 6) (by kernel_rfl) rfl rfl ?_ ?_
      ·
        try clear hM
        refine id (w_call hl hh rfl trivial rfl cal16 rfl (plain_spec s.1.rs s.1.rv s.1.Er hI.row (by have := hI.len; omega) ⟨kd, x, A, B, E, D⟩) (by repeat (first | exact keeps_nil | apply keeps_cons (by repeat (first | exact find_head | apply find_tail)) (by first  | rfl) | exact keeps_self | apply keeps_mv)) trivial ?_)
        clear hl hh a w; intro vc Fc a w hR hl hh
        obtain ⟨rfl, rfl⟩ := hR
        try simp only [List.cons_append, List.nil_append] at hh
        replace hh := hh.comm; simp only [List.cons_append, List.nil_append, List.append_nil] at hh; have hok : (plainF s.1.rs ⟨kd, x, A, B, E, D⟩).ok := plainF_ok hqo hI.ok; generalize hp2 : plainF s.1.rs ⟨kd, x, A, B, E, D⟩ = o2 at hl hok; obtain ⟨kd2, x2, A2, B2, E2, D2⟩ := o2; simp only [MOp.vals] at hl; obtain ⟨fl2, hI2⟩ := hI.inv.do hok
        have hM : Mem [(gb, C [.pointer (some ⟨b, 0, none⟩), s.1.rv] 41), (k11, C [.int .u8 kd, .int .u32 x, .int .u64 A, .int .u64 B, .int .u64 E, .int .u64 D] 36)] w := (by repeat (first | exact Mem.nil | refine Mem.cons hh.mem (by repeat (first | exact find_head | apply find_tail)) ?_ | refine Mem.consR hh (by assumption) (by simp) ?_))
        refine d_step (fun _ => hM) ?_
        refine d_one (i := 6) (by kernel_rfl) rfl ?_
        try clear hM
        refine id (w_alloc hl hh rfl trivial zero36 rfl ?_)
        clear hl hh a w; intro k12 a w hl hh
        have hM : Mem [(gb, C [.pointer (some ⟨b, 0, none⟩), s.1.rv] 41), (k11, C [.int .u8 kd, .int .u32 x, .int .u64 A, .int .u64 B, .int .u64 E, .int .u64 D] 36)] w := (by repeat (first | exact Mem.nil | refine Mem.cons hh.mem (by repeat (first | exact find_head | apply find_tail)) ?_ | refine Mem.consR hh (by assumption) (by simp) ?_))
        refine d_step (fun _ => hM) ?_
        refine d_one (i := 7) (by kernel_rfl) rfl ?_
        try clear hM
        refine id (w_storeA hl hh trivial agg36 rfl rfl (by repeat (first | exact find_head | apply find_tail)) (by first | rfl | (simp; done)) (by first | (simp; done) | (simp; omega)) (by first | rfl | (simp; done)) (by first | (simp only [setL, List.getElem?_cons_zero, List.getElem?_cons_succ, Value.cells, List.take_zero, List.take_succ_cons, List.take_nil, List.drop_zero, List.drop_succ_cons, List.drop_nil, List.length_cons, List.length_nil, List.cons_append, List.nil_append, List.append_nil, Nat.zero_add, Nat.add_zero, Nat.reduceAdd, Nat.reduceBEq, Nat.reduceEqDiff, Nat.ble, BEq.rfl, Bool.and_true, Bool.and_self, cond_true, beq_self_eq_true]; rfl)) ?_)
        clear hh w; intro w hh
        refine d_step (fun h => absurd h (by decide)) ?_
        refine d_done (by kernel_rfl) ?_
        try clear hM
        have hl2 := hl.add (t := 3) (hl.add (t := 5) (hl.add (t := 7) (hl.add (t := 8) (hl.add (t := 9) (hl.add (t := 12) (hl.add (t := 39) (hl.add (t := 40) (hl.add (t := 41) (hl.nil) rfl) rfl) rfl) rfl) rfl) rfl) rfl) rfl) rfl; clear hl; have hl := hl2; clear hl2
        refine then_normal ?_
        refine c_seq ?_
        refine c_seq ?_
        refine c_region ?_
        refine wl (wl_val hl rfl trivial (r_field hl rfl fld36_0) ?_)
        clear hl a; intro a hl
        refine wl (w_load hl hh rfl trivial one32 rfl (by repeat (first | exact find_head | apply find_tail)) (by first | rfl) ?_)
        clear hl a; intro a hl
        refine wl (wl_val hl rfl trivial (r_eql hl rfl rfl) ?_)
        clear hl a; intro a hl
        refine w_nil ?_
        have hl2 := hl.add (t := 3) (hl.add (t := 5) (hl.add (t := 7) (hl.add (t := 8) (hl.add (t := 9) (hl.add (t := 12) (hl.add (t := 39) (hl.add (t := 40) (hl.add (t := 41) (hl.add (t := 53) (hl.nil) rfl) rfl) rfl) rfl) rfl) rfl) rfl) rfl) rfl) rfl; clear hl; have hl := hl2; clear hl2
        refine then_normal ?_
        refine c_cond hl rfl ?_ ?_
        · intro hc2
          try simp only [decide_eq_true_eq, decide_eq_false_iff_not, Bool.not_eq_true', Bool.not_eq_false', Bool.not_eq_true, Bool.not_eq_false, Bool.and_eq_true, Bool.or_eq_true, Bool.and_eq_false_iff, Bool.or_eq_false_iff, Bool.not_not, ne_eq, Int.not_lt, Int.not_le, Decidable.not_not, beq_iff_eq, bne_iff_ne] at hc2
          have h6 := doF_free s.1.f ⟨kd2, x2, A2, B2, E2, D2⟩ (by simp only; omega)
          rw [freeF_st0] at h6
          simp only at h6
          refine c_seq ?_
          refine c_region ?_
          refine wl (wl_val hl rfl trivial (r_field hl rfl fld36_2) ?_)
          clear hl a; intro a hl
          refine wl (w_load hl hh rfl trivial one27 rfl (by repeat (first | exact find_head | apply find_tail)) (by first | rfl) ?_)
          clear hl a; intro a hl
          refine wl (wl_val hl rfl trivial (r_assign hl rfl) ?_)
          clear hl a; intro a hl
          refine w_nil ?_
          have hl2 := hl.add (t := 3) (hl.add (t := 5) (hl.add (t := 7) (hl.add (t := 8) (hl.add (t := 9) (hl.add (t := 12) (hl.add (t := 13) (hl.add (t := 39) (hl.add (t := 40) (hl.add (t := 41) (hl.nil) rfl) rfl) rfl) rfl) rfl) rfl) rfl) rfl) rfl) rfl; clear hl; have hl := hl2; clear hl2
          refine then_normal ?_
          refine c_seq ?_
          refine c_seq ?_
          refine c_region ?_
          refine wl (wl_val hl rfl trivial (r_move hl rfl) ?_)
          clear hl a; intro a hl
          first | refine wl (w_loadA hl hh rfl trivial agg36 rfl (by repeat (first | exact find_head | apply find_tail)) (by first | (simp only [List.getElem?_cons_zero, List.getElem?_cons_succ, Value.cells, List.take_zero, List.take_succ_cons, List.take_nil, List.drop_zero, List.drop_succ_cons, List.drop_nil, List.length_cons, List.length_nil, List.cons_append, List.nil_append, List.append_nil, Nat.zero_add, Nat.add_zero, Nat.reduceAdd, Nat.reduceBEq, Nat.reduceEqDiff, Nat.ble, BEq.rfl, Bool.and_true, Bool.and_self, cond_true, beq_self_eq_true]; rfl)) (by first | rfl | (simp; done)) ?_) | refine wl (w_loadRA hl hh rfl trivial agg36 rfl hm (by simp) hqv rfl ?_)
          clear hl a; intro a hl
          refine wl (w_call hl hh rfl trivial rfl cal17 rfl (gdo_spec gb b hI.inv (by omega) s.1.rs s.1.rv s.1.Er hI.row (by have := hI.len; omega) ⟨kd2, x2, A2, B2, E2, D2⟩ hok) (by repeat (first | exact keeps_nil | apply keeps_cons (by repeat (first | exact find_head | apply find_tail)) (by first  | rfl) | exact keeps_self | apply keeps_mv)) trivial ?_)
          clear hl hh a w; intro vc Fc a w hR hl hh
          obtain ⟨rfl, rv2, E3, hR2, rfl⟩ := hR
          try simp only [List.cons_append, List.nil_append] at hh
          replace hh := has_comm2 hh; simp only [List.cons_append, List.nil_append, List.append_nil] at hh; have hts := doF_st s.1.f ⟨kd2, x2, A2, B2, E2, D2⟩; generalize hr : (doF s.1.f ⟨kd2, x2, A2, B2, E2, D2⟩).ans = r at hl hts; obtain ⟨t, pp, u, u1⟩ := r; simp only [Ans.l] at hl; simp only at hts
          refine wl (wl_val hl rfl trivial (r_fieldV hl rfl fldT44_0 one42 rfl) ?_)
          clear hl a; intro a hl
          refine wl (wl_val hl rfl trivial (r_eql hl rfl rfl) ?_)
          clear hl a; intro a hl
          refine wl (wl_val hl rfl trivial (r_move hl rfl) ?_)
          clear hl a; intro a hl
          refine sl_split (t := 61) hl rfl ?_ ?_
          · intro hg1; clear hl; intro hl
            try simp only [decide_eq_true_eq, decide_eq_false_iff_not, Bool.not_eq_true', Bool.not_eq_false', Bool.not_eq_true, Bool.not_eq_false, Bool.and_eq_true, Bool.or_eq_true, Bool.and_eq_false_iff, Bool.or_eq_false_iff, Bool.not_not, ne_eq, Int.not_lt, Int.not_le, Decidable.not_not, beq_iff_eq, bne_iff_ne] at hg1
            refine wl (wl_val hl rfl ⟨_, _, rfl, rfl, rfl⟩ (r_move hl rfl) ?_)
            clear hl a; intro a hl
            refine wl (w_call hl hh rfl ⟨_, _, rfl, rfl, rfl⟩ rfl cal31 rfl (refGen_spec A2) (by repeat (first | exact keeps_nil | apply keeps_cons (by repeat (first | exact find_head | apply find_tail)) (by first  | rfl) | exact keeps_self | apply keeps_mv)) trivial ?_)
            clear hl hh a w; intro vc Fc a w hR hl hh
            obtain ⟨rfl, rfl⟩ := hR
            try simp only [List.cons_append, List.nil_append] at hh
            refine wl (wl_val hl rfl ⟨_, _, rfl, rfl, rfl⟩ (r_lss hl rfl rfl) ?_)
            clear hl a; intro a hl
            refine wl (wl_val hl rfl trivial (r_pickT hl rfl rfl) ?_)
            clear hl a; intro a hl
            refine w_nil ?_
            have hl2 := hl.add (t := 3) (hl.add (t := 5) (hl.add (t := 7) (hl.add (t := 8) (hl.add (t := 9) (hl.add (t := 13) (hl.add (t := 39) (hl.add (t := 40) (hl.add (t := 41) (hl.add (t := 65) (hl.nil) rfl) rfl) rfl) rfl) rfl) rfl) rfl) rfl) rfl) rfl; clear hl; have hl := hl2; clear hl2
            refine then_normal ?_
            refine c_cond hl rfl ?_ ?_
            · intro hc3
              try simp only [decide_eq_true_eq, decide_eq_false_iff_not, Bool.not_eq_true', Bool.not_eq_false', Bool.not_eq_true, Bool.not_eq_false, Bool.and_eq_true, Bool.or_eq_true, Bool.and_eq_false_iff, Bool.or_eq_false_iff, Bool.not_not, ne_eq, Int.not_lt, Int.not_le, Decidable.not_not, beq_iff_eq, bne_iff_ne] at hc3
              have hj0 : judgeF s.1.f A2 = 0 := by
                have h7 := h6.2
                rw [hr] at h7
                injection h7 with e0
                omega
              obtain ⟨_, sy, flx, hIx, hFk⟩ := hI.inv.freeOk A2 hj0
              rw [← h6.1] at hIx hFk
              have hfr := hFk.frs
              have hlk := hJ.sizes.at_ A2 hj0
              rw [hFk.size] at hlk
              obtain ⟨hlw, hln⟩ := hJ.at_ hFk.s1 hFk.s2 hFk.s3
              obtain ⟨l2, hl2⟩ : ∃ l2 : List (Int × Value) × List (Int × Value), l2 = (s.2.1, mput s.2.2 (sy : Int) (.int .i64 (((s.1.fl (sy / 2 - 1)).length : Int) + 1))) := ⟨_, rfl⟩
              have hla : l2.1 = ((s.2.1, mput s.2.2 (sy : Int) (.int .i64 (((s.1.fl (sy / 2 - 1)).length : Int) + 1))) : List (Int × Value) × List (Int × Value)).1 := by rw [hl2]
              have hlb : l2.2 = ((s.2.1, mput s.2.2 (sy : Int) (.int .i64 (((s.1.fl (sy / 2 - 1)).length : Int) + 1))) : List (Int × Value) × List (Int × Value)).2 := by rw [hl2]
              simp only at hla hlb
              have hN : J8 G (doF s.1.f ⟨kd2, x2, A2, B2, E2, D2⟩).f fl2 (s.1.i + 1) l2 := by rw [hl2]; exact hJ.push hj0 hFk hIx hI2 (by omega)
              refine c_region ?_
              refine wl (wl_val hl rfl trivial (r_move hl rfl) ?_)
              clear hl a; intro a hl
              refine wl (wl_val hl rfl trivial (r_move hl rfl) ?_)
              clear hl a; intro a hl
              refine wl (wl_val hl rfl trivial (r_move hl rfl) ?_)
              clear hl a; intro a hl
              refine wl (w_lookup (keyInt Try.underlying63) Try.underlying52 zero3 hl hh rfl trivial rfl rfl (by repeat (first | exact find_head | apply find_tail)) ?_)
              clear hl a; intro a hl
              first | rw [hlk] at hl | rw [hlw] at hl
              refine wl (w_lookup (keyInt Try.underlying3) Try.underlying69 zero3 hl hh rfl trivial rfl rfl (by repeat (first | exact find_head | apply find_tail)) ?_)
              clear hl a; intro a hl
              first | rw [hlk] at hl | rw [hlw] at hl
              first | refine wl (wl_val hl rfl trivial (r_add hl rfl rfl (by simp only [Fits]; omega)) ?_) | refine wl (wl_val hl rfl trivial (r_addW hl rfl rfl) ?_)
              clear hl a; intro a hl
              refine wl (w_mapUpdate (keyInt Try.underlying3) Try.underlying69 hl hh trivial rfl rfl rfl (by repeat (first | exact find_head | apply find_tail)) ?_)
              clear hh w; intro w hh
              refine w_nil ?_
              have hl2 := hl.add (t := 3) (hl.add (t := 5) (hl.add (t := 7) (hl.add (t := 8) (hl.add (t := 9) (hl.add (t := 39) (hl.add (t := 40) (hl.add (t := 41) (hl.nil) rfl) rfl) rfl) rfl) rfl) rfl) rfl) rfl; clear hl; have hl := hl2; clear hl2
              refine then_normal ?_
              refine wp_exit ?_
              refine then_exit ?_
              refine blk_exit ?_
              refine then_normal ?_
              refine c_region ?_
              first | refine wl (wl_val hl rfl trivial (r_add hl rfl rfl (by simp only [Fits]; omega)) ?_) | refine wl (wl_val hl rfl trivial (r_addW hl rfl rfl) ?_)
              clear hl a; intro a hl
              refine wl (wl_val hl rfl trivial (r_move hl rfl) ?_)
              clear hl a; intro a hl
              refine w_nil ?_
              have hl2 := hl.add (t := 3) (hl.add (t := 5) (hl.add (t := 7) (hl.add (t := 8) (hl.add (t := 9) (hl.add (t := 39) (hl.add (t := 40) (hl.add (t := 41) (hl.nil) rfl) rfl) rfl) rfl) rfl) rfl) rfl) rfl; clear hl; have hl := hl2; clear hl2
              refine then_normal ?_
              refine ⟨(⟨s.1.i + 1, (doF s.1.f ⟨kd2, x2, A2, B2, E2, D2⟩).f, fl2, keepF s.1.rs ⟨kd2, x2, A2, B2, E2, D2⟩ (doF s.1.f ⟨kd2, x2, A2, B2, E2, D2⟩).ans, rv2, E3⟩, l2), (by dsimp only; omega), ⟨hI.next hi hok hI2 hR2, hN⟩, hl.addE (t := 41) (hl.addE (t := 3) (hl.addE (t := 5) (hl.addE (t := 7) (hl.addE (t := 8) (hl.addE (t := 9) (hl.addE (t := 39) (hl.addE (t := 40) (hl.nil) rfl (by first | rfl | rfl)) rfl (by first | rfl | rfl)) rfl (by first | rfl | rfl)) rfl (by first | rfl | rfl)) rfl (by first | rfl | rfl)) rfl (by first | rfl | rfl)) rfl (by first | rfl | rfl)) rfl (by first | rfl | rfl), (by simp only [List.cons_append, List.nil_append, List.append_nil]; exact hh.keep (by repeat (first | exact keeps_nil | apply keeps_cons (by repeat (first | exact find_head | apply find_tail)) (by first  | (rw [hla]; done) | (rw [hlb]; done) | exact uIn_all hIx hOk (by omega) | exact uV_same hfr | rfl) | exact keeps_self | apply keeps_mv)))⟩
            · intro hc3
              try simp only [decide_eq_true_eq, decide_eq_false_iff_not, Bool.not_eq_true', Bool.not_eq_false', Bool.not_eq_true, Bool.not_eq_false, Bool.and_eq_true, Bool.or_eq_true, Bool.and_eq_false_iff, Bool.or_eq_false_iff, Bool.not_not, ne_eq, Int.not_lt, Int.not_le, Decidable.not_not, beq_iff_eq, bne_iff_ne] at hc3
              have hb3 : fresh (doF s.1.f ⟨kd2, x2, A2, B2, E2, D2⟩).f = fresh s.1.f ∧ J8 G (doF s.1.f ⟨kd2, x2, A2, B2, E2, D2⟩).f fl2 (s.1.i + 1) s.2 := by
                by_cases ht0 : t = 0
                · have hj0 : judgeF s.1.f A2 = 0 := by
                    have h7 := h6.2
                    rw [hr] at h7
                    injection h7 with e0
                    omega
                  obtain ⟨_, sy, flx, hIx, hFk⟩ := hI.inv.freeOk A2 hj0
                  rw [← h6.1] at hIx hFk
                  exact ⟨hFk.frs, hJ.spend hj0 hFk hIx hI2 (by omega) hI.inv⟩
                · have hf := (doF_refuse s.1.f ⟨kd2, x2, A2, B2, E2, D2⟩ (by rw [hr]; exact ht0)).1
                  have hsm : SameBut s.1.f (doF s.1.f ⟨kd2, x2, A2, B2, E2, D2⟩).f := by rw [hf]; exact SameBut.refl _
                  exact ⟨hsm.fresh, hJ.same hsm hI.inv hI2⟩
              obtain ⟨hfr, hb4⟩ := hb3
              obtain ⟨l2, hl2⟩ : ∃ l2, l2 = s.2 := ⟨_, rfl⟩
              have hla : l2.1 = s.2.1 := by rw [hl2]
              have hlb : l2.2 = s.2.2 := by rw [hl2]
              have hN : J8 G (doF s.1.f ⟨kd2, x2, A2, B2, E2, D2⟩).f fl2 (s.1.i + 1) l2 := by rw [hl2]; exact hb4
              refine wp_skip ?_
              refine then_normal ?_
              refine wp_exit ?_
              refine then_exit ?_
              refine blk_exit ?_
              refine then_normal ?_
              refine c_region ?_
              first | refine wl (wl_val hl rfl trivial (r_add hl rfl rfl (by simp only [Fits]; omega)) ?_) | refine wl (wl_val hl rfl trivial (r_addW hl rfl rfl) ?_)
              clear hl a; intro a hl
              refine wl (wl_val hl rfl trivial (r_move hl rfl) ?_)
              clear hl a; intro a hl
              refine w_nil ?_
              have hl2 := hl.add (t := 3) (hl.add (t := 5) (hl.add (t := 7) (hl.add (t := 8) (hl.add (t := 9) (hl.add (t := 39) (hl.add (t := 40) (hl.add (t := 41) (hl.nil) rfl) rfl) rfl) rfl) rfl) rfl) rfl) rfl; clear hl; have hl := hl2; clear hl2
              refine then_normal ?_
              refine ⟨(⟨s.1.i + 1, (doF s.1.f ⟨kd2, x2, A2, B2, E2, D2⟩).f, fl2, keepF s.1.rs ⟨kd2, x2, A2, B2, E2, D2⟩ (doF s.1.f ⟨kd2, x2, A2, B2, E2, D2⟩).ans, rv2, E3⟩, l2), (by dsimp only; omega), ⟨hI.next hi hok hI2 hR2, hN⟩, hl.addE (t := 41) (hl.addE (t := 3) (hl.addE (t := 5) (hl.addE (t := 7) (hl.addE (t := 8) (hl.addE (t := 9) (hl.addE (t := 39) (hl.addE (t := 40) (hl.nil) rfl (by first | rfl | rfl)) rfl (by first | rfl | rfl)) rfl (by first | rfl | rfl)) rfl (by first | rfl | rfl)) rfl (by first | rfl | rfl)) rfl (by first | rfl | rfl)) rfl (by first | rfl | rfl)) rfl (by first | rfl | rfl), (by simp only [List.cons_append, List.nil_append, List.append_nil]; exact hh.keep (by repeat (first | exact keeps_nil | apply keeps_cons (by repeat (first | exact find_head | apply find_tail)) (by first  | (rw [hla]; done) | (rw [hlb]; done) | exact uIn_all hIx hOk (by omega) | exact uV_same hfr | rfl) | exact keeps_self | apply keeps_mv)))⟩
          · intro hg1; clear hl; intro hl
            try simp only [decide_eq_true_eq, decide_eq_false_iff_not, Bool.not_eq_true', Bool.not_eq_false', Bool.not_eq_true, Bool.not_eq_false, Bool.and_eq_true, Bool.or_eq_true, Bool.and_eq_false_iff, Bool.or_eq_false_iff, Bool.not_not, ne_eq, Int.not_lt, Int.not_le, Decidable.not_not, beq_iff_eq, bne_iff_ne] at hg1
            refine wl (wl_skip hl rfl ⟨_, _, rfl, rfl, rfl⟩ ?_)
            clear hl a; intro a hl
            refine wl (wl_skip hl rfl ⟨_, _, rfl, rfl, rfl⟩ ?_)
            clear hl a; intro a hl
            refine wl (wl_skip hl rfl ⟨_, _, rfl, rfl, rfl⟩ ?_)
            clear hl a; intro a hl
            refine wl (wl_val hl rfl trivial (r_pickF hl rfl rfl) ?_)
            clear hl a; intro a hl
            refine w_nil ?_
            have hl2 := hl.add (t := 3) (hl.add (t := 5) (hl.add (t := 7) (hl.add (t := 8) (hl.add (t := 9) (hl.add (t := 13) (hl.add (t := 39) (hl.add (t := 40) (hl.add (t := 41) (hl.add (t := 65) (hl.nil) rfl) rfl) rfl) rfl) rfl) rfl) rfl) rfl) rfl) rfl; clear hl; have hl := hl2; clear hl2
            refine then_normal ?_
            refine c_condF hl rfl ?_
            have hb3 : fresh (doF s.1.f ⟨kd2, x2, A2, B2, E2, D2⟩).f = fresh s.1.f ∧ J8 G (doF s.1.f ⟨kd2, x2, A2, B2, E2, D2⟩).f fl2 (s.1.i + 1) s.2 := by
              by_cases ht0 : t = 0
              · have hj0 : judgeF s.1.f A2 = 0 := by
                  have h7 := h6.2
                  rw [hr] at h7
                  injection h7 with e0
                  omega
                obtain ⟨_, sy, flx, hIx, hFk⟩ := hI.inv.freeOk A2 hj0
                rw [← h6.1] at hIx hFk
                exact ⟨hFk.frs, hJ.spend hj0 hFk hIx hI2 (by omega) hI.inv⟩
              · have hf := (doF_refuse s.1.f ⟨kd2, x2, A2, B2, E2, D2⟩ (by rw [hr]; exact ht0)).1
                have hsm : SameBut s.1.f (doF s.1.f ⟨kd2, x2, A2, B2, E2, D2⟩).f := by rw [hf]; exact SameBut.refl _
                exact ⟨hsm.fresh, hJ.same hsm hI.inv hI2⟩
            obtain ⟨hfr, hb4⟩ := hb3
            obtain ⟨l2, hl2⟩ : ∃ l2, l2 = s.2 := ⟨_, rfl⟩
            have hla : l2.1 = s.2.1 := by rw [hl2]
            have hlb : l2.2 = s.2.2 := by rw [hl2]
            have hN : J8 G (doF s.1.f ⟨kd2, x2, A2, B2, E2, D2⟩).f fl2 (s.1.i + 1) l2 := by rw [hl2]; exact hb4
            refine wp_skip ?_
            refine then_normal ?_
            refine wp_exit ?_
            refine then_exit ?_
            refine blk_exit ?_
            refine then_normal ?_
            refine c_region ?_
            first | refine wl (wl_val hl rfl trivial (r_add hl rfl rfl (by simp only [Fits]; omega)) ?_) | refine wl (wl_val hl rfl trivial (r_addW hl rfl rfl) ?_)
            clear hl a; intro a hl
            refine wl (wl_val hl rfl trivial (r_move hl rfl) ?_)
            clear hl a; intro a hl
            refine w_nil ?_
            have hl2 := hl.add (t := 3) (hl.add (t := 5) (hl.add (t := 7) (hl.add (t := 8) (hl.add (t := 9) (hl.add (t := 39) (hl.add (t := 40) (hl.add (t := 41) (hl.nil) rfl) rfl) rfl) rfl) rfl) rfl) rfl) rfl; clear hl; have hl := hl2; clear hl2
            refine then_normal ?_
            refine ⟨(⟨s.1.i + 1, (doF s.1.f ⟨kd2, x2, A2, B2, E2, D2⟩).f, fl2, keepF s.1.rs ⟨kd2, x2, A2, B2, E2, D2⟩ (doF s.1.f ⟨kd2, x2, A2, B2, E2, D2⟩).ans, rv2, E3⟩, l2), (by dsimp only; omega), ⟨hI.next hi hok hI2 hR2, hN⟩, hl.addE (t := 41) (hl.addE (t := 3) (hl.addE (t := 5) (hl.addE (t := 7) (hl.addE (t := 8) (hl.addE (t := 9) (hl.addE (t := 39) (hl.addE (t := 40) (hl.nil) rfl (by first | rfl | rfl)) rfl (by first | rfl | rfl)) rfl (by first | rfl | rfl)) rfl (by first | rfl | rfl)) rfl (by first | rfl | rfl)) rfl (by first | rfl | rfl)) rfl (by first | rfl | rfl)) rfl (by first | rfl | rfl), (by simp only [List.cons_append, List.nil_append, List.append_nil]; exact hh.keep (by repeat (first | exact keeps_nil | apply keeps_cons (by repeat (first | exact find_head | apply find_tail)) (by first  | (rw [hla]; done) | (rw [hlb]; done) | exact uIn_all hIx hOk (by omega) | exact uV_same hfr | rfl) | exact keeps_self | apply keeps_mv)))⟩
        · intro hc2
          try simp only [decide_eq_true_eq, decide_eq_false_iff_not, Bool.not_eq_true', Bool.not_eq_false', Bool.not_eq_true, Bool.not_eq_false, Bool.and_eq_true, Bool.or_eq_true, Bool.and_eq_false_iff, Bool.or_eq_false_iff, Bool.not_not, ne_eq, Int.not_lt, Int.not_le, Decidable.not_not, beq_iff_eq, bne_iff_ne] at hc2
          refine wp_skip ?_
          refine then_normal ?_
          refine c_seq ?_
          refine c_seq ?_
          refine c_region ?_
          refine wl (wl_val hl rfl trivial (r_field hl rfl fld36_0) ?_)
          clear hl a; intro a hl
          refine wl (w_load hl hh rfl trivial one32 rfl (by repeat (first | exact find_head | apply find_tail)) (by first | rfl) ?_)
          clear hl a; intro a hl
          refine wl (wl_val hl rfl trivial (r_neq hl rfl rfl) ?_)
          clear hl a; intro a hl
          refine wl (wl_val hl rfl trivial (r_move hl rfl) ?_)
          clear hl a; intro a hl
          refine sl_split (t := 75) hl rfl ?_ ?_
          · intro hg2; clear hl; intro hl
            try simp only [decide_eq_true_eq, decide_eq_false_iff_not, Bool.not_eq_true', Bool.not_eq_false', Bool.not_eq_true, Bool.not_eq_false, Bool.and_eq_true, Bool.or_eq_true, Bool.and_eq_false_iff, Bool.or_eq_false_iff, Bool.not_not, ne_eq, Int.not_lt, Int.not_le, Decidable.not_not, beq_iff_eq, bne_iff_ne] at hg2
            refine wl (wl_skip hl rfl ⟨_, _, rfl, rfl, rfl⟩ ?_)
            clear hl a; intro a hl
            refine wl (wl_skip hl rfl ⟨_, _, rfl, rfl, rfl⟩ ?_)
            clear hl a; intro a hl
            refine wl (wl_skip hl rfl ⟨_, _, rfl, rfl, rfl⟩ ?_)
            clear hl a; intro a hl
            refine wl (wl_val hl rfl trivial (r_pickT hl rfl rfl) ?_)
            clear hl a; intro a hl
            refine wl (wl_val hl rfl trivial (r_move hl rfl) ?_)
            clear hl a; intro a hl
            refine wl (wl_skip hl rfl ⟨_, _, rfl, rfl, rfl⟩ ?_)
            clear hl a; intro a hl
            refine wl (wl_skip hl rfl ⟨_, _, rfl, rfl, rfl⟩ ?_)
            clear hl a; intro a hl
            refine wl (wl_skip hl rfl ⟨_, _, rfl, rfl, rfl⟩ ?_)
            clear hl a; intro a hl
            refine wl (wl_val hl rfl trivial (r_pickT hl rfl rfl) ?_)
            clear hl a; intro a hl
            refine w_nil ?_
            have hl2 := hl.add (t := 3) (hl.add (t := 5) (hl.add (t := 7) (hl.add (t := 8) (hl.add (t := 9) (hl.add (t := 12) (hl.add (t := 39) (hl.add (t := 40) (hl.add (t := 41) (hl.add (t := 84) (hl.nil) rfl) rfl) rfl) rfl) rfl) rfl) rfl) rfl) rfl) rfl; clear hl; have hl := hl2; clear hl2
            refine then_normal ?_
            refine c_condT hl rfl ?_
            refine c_seq ?_
            refine c_region ?_
            refine wl (wl_val hl rfl trivial (r_move hl rfl) ?_)
            clear hl a; intro a hl
            first | refine wl (w_loadA hl hh rfl trivial agg36 rfl (by repeat (first | exact find_head | apply find_tail)) (by first | (simp only [List.getElem?_cons_zero, List.getElem?_cons_succ, Value.cells, List.take_zero, List.take_succ_cons, List.take_nil, List.drop_zero, List.drop_succ_cons, List.drop_nil, List.length_cons, List.length_nil, List.cons_append, List.nil_append, List.append_nil, Nat.zero_add, Nat.add_zero, Nat.reduceAdd, Nat.reduceBEq, Nat.reduceEqDiff, Nat.ble, BEq.rfl, Bool.and_true, Bool.and_self, cond_true, beq_self_eq_true]; rfl)) (by first | rfl | (simp; done)) ?_) | refine wl (w_loadRA hl hh rfl trivial agg36 rfl hm (by simp) hqv rfl ?_)
            clear hl a; intro a hl
            refine wl (w_call hl hh rfl trivial rfl cal17 rfl (gdo_spec gb b hI.inv (by omega) s.1.rs s.1.rv s.1.Er hI.row (by have := hI.len; omega) ⟨kd2, x2, A2, B2, E2, D2⟩ hok) (by repeat (first | exact keeps_nil | apply keeps_cons (by repeat (first | exact find_head | apply find_tail)) (by first  | rfl) | exact keeps_self | apply keeps_mv)) trivial ?_)
            clear hl hh a w; intro vc Fc a w hR hl hh
            obtain ⟨rfl, rv2, E3, hR2, rfl⟩ := hR
            try simp only [List.cons_append, List.nil_append] at hh
            replace hh := has_comm2 hh; simp only [List.cons_append, List.nil_append, List.append_nil] at hh; have hts := doF_st s.1.f ⟨kd2, x2, A2, B2, E2, D2⟩; generalize hr : (doF s.1.f ⟨kd2, x2, A2, B2, E2, D2⟩).ans = r at hl hts; obtain ⟨t, pp, u, u1⟩ := r; simp only [Ans.l] at hl; simp only at hts
            have hsm := doF_sameBut s.1.f ⟨kd2, x2, A2, B2, E2, D2⟩ (fun e z => by obtain ⟨_, _, z3⟩ := doF_alloc s.1.f ⟨kd2, x2, A2, B2, E2, D2⟩ e z; obtain ⟨y1, y2, _⟩ := hI.inv.allocOk A2 z3; simp only at e; omega) (fun e => by simp only at e; omega)
            have hfr := hsm.fresh
            obtain ⟨l2, hl2⟩ : ∃ l2, l2 = s.2 := ⟨_, rfl⟩
            have hla : l2.1 = s.2.1 := by rw [hl2]
            have hlb : l2.2 = s.2.2 := by rw [hl2]
            have hN : J8 G (doF s.1.f ⟨kd2, x2, A2, B2, E2, D2⟩).f fl2 (s.1.i + 1) l2 := by rw [hl2]; exact hJ.same hsm hI.inv hI2
            refine w_nil ?_
            have hl2 := hl.add (t := 3) (hl.add (t := 5) (hl.add (t := 7) (hl.add (t := 8) (hl.add (t := 9) (hl.add (t := 39) (hl.add (t := 40) (hl.add (t := 41) (hl.nil) rfl) rfl) rfl) rfl) rfl) rfl) rfl) rfl; clear hl; have hl := hl2; clear hl2
            refine then_normal ?_
            refine wp_exit ?_
            refine then_exit ?_
            refine blk_exit ?_
            refine then_normal ?_
            refine c_region ?_
            first | refine wl (wl_val hl rfl trivial (r_add hl rfl rfl (by simp only [Fits]; omega)) ?_) | refine wl (wl_val hl rfl trivial (r_addW hl rfl rfl) ?_)
            clear hl a; intro a hl
            refine wl (wl_val hl rfl trivial (r_move hl rfl) ?_)
            clear hl a; intro a hl
            refine w_nil ?_
            have hl2 := hl.add (t := 3) (hl.add (t := 5) (hl.add (t := 7) (hl.add (t := 8) (hl.add (t := 9) (hl.add (t := 39) (hl.add (t := 40) (hl.add (t := 41) (hl.nil) rfl) rfl) rfl) rfl) rfl) rfl) rfl) rfl; clear hl; have hl := hl2; clear hl2
            refine then_normal ?_
            refine ⟨(⟨s.1.i + 1, (doF s.1.f ⟨kd2, x2, A2, B2, E2, D2⟩).f, fl2, keepF s.1.rs ⟨kd2, x2, A2, B2, E2, D2⟩ (doF s.1.f ⟨kd2, x2, A2, B2, E2, D2⟩).ans, rv2, E3⟩, l2), (by dsimp only; omega), ⟨hI.next hi hok hI2 hR2, hN⟩, hl.addE (t := 41) (hl.addE (t := 3) (hl.addE (t := 5) (hl.addE (t := 7) (hl.addE (t := 8) (hl.addE (t := 9) (hl.addE (t := 39) (hl.addE (t := 40) (hl.nil) rfl (by first | rfl | rfl)) rfl (by first | rfl | rfl)) rfl (by first | rfl | rfl)) rfl (by first | rfl | rfl)) rfl (by first | rfl | rfl)) rfl (by first | rfl | rfl)) rfl (by first | rfl | rfl)) rfl (by first | rfl | rfl), (by simp only [List.cons_append, List.nil_append, List.append_nil]; exact hh.keep (by repeat (first | exact keeps_nil | apply keeps_cons (by repeat (first | exact find_head | apply find_tail)) (by first  | (rw [hla]; done) | (rw [hlb]; done) | exact uIn_all hIx hOk (by omega) | exact uV_same hfr | rfl) | exact keeps_self | apply keeps_mv)))⟩
          · intro hg2; clear hl; intro hl
            try simp only [decide_eq_true_eq, decide_eq_false_iff_not, Bool.not_eq_true', Bool.not_eq_false', Bool.not_eq_true, Bool.not_eq_false, Bool.and_eq_true, Bool.or_eq_true, Bool.and_eq_false_iff, Bool.or_eq_false_iff, Bool.not_not, ne_eq, Int.not_lt, Int.not_le, Decidable.not_not, beq_iff_eq, bne_iff_ne] at hg2
            refine wl (wl_val hl rfl ⟨_, _, rfl, rfl, rfl⟩ (r_field hl rfl fld36_2) ?_)
            clear hl a; intro a hl
            refine wl (w_load hl hh rfl ⟨_, _, rfl, rfl, rfl⟩ one27 rfl (by repeat (first | exact find_head | apply find_tail)) (by first | rfl) ?_)
            clear hl a; intro a hl
            refine wl (wl_val hl rfl ⟨_, _, rfl, rfl, rfl⟩ (r_lss hl rfl rfl) ?_)
            clear hl a; intro a hl
            refine wl (wl_val hl rfl trivial (r_pickF hl rfl rfl) ?_)
            clear hl a; intro a hl
            refine wl (wl_val hl rfl trivial (r_move hl rfl) ?_)
            clear hl a; intro a hl
            refine sl_split (t := 80) hl rfl ?_ ?_
            · intro hg3; clear hl; intro hl
              try simp only [decide_eq_true_eq, decide_eq_false_iff_not, Bool.not_eq_true', Bool.not_eq_false', Bool.not_eq_true, Bool.not_eq_false, Bool.and_eq_true, Bool.or_eq_true, Bool.and_eq_false_iff, Bool.or_eq_false_iff, Bool.not_not, ne_eq, Int.not_lt, Int.not_le, Decidable.not_not, beq_iff_eq, bne_iff_ne] at hg3
              refine wl (wl_skip hl rfl ⟨_, _, rfl, rfl, rfl⟩ ?_)
              clear hl a; intro a hl
              refine wl (wl_skip hl rfl ⟨_, _, rfl, rfl, rfl⟩ ?_)
              clear hl a; intro a hl
              refine wl (wl_skip hl rfl ⟨_, _, rfl, rfl, rfl⟩ ?_)
              clear hl a; intro a hl
              refine wl (wl_val hl rfl trivial (r_pickT hl rfl rfl) ?_)
              clear hl a; intro a hl
              refine w_nil ?_
              have hl2 := hl.add (t := 3) (hl.add (t := 5) (hl.add (t := 7) (hl.add (t := 8) (hl.add (t := 9) (hl.add (t := 12) (hl.add (t := 39) (hl.add (t := 40) (hl.add (t := 41) (hl.add (t := 84) (hl.nil) rfl) rfl) rfl) rfl) rfl) rfl) rfl) rfl) rfl) rfl; clear hl; have hl := hl2; clear hl2
              refine then_normal ?_
              refine c_condT hl rfl ?_
              refine c_seq ?_
              refine c_region ?_
              refine wl (wl_val hl rfl trivial (r_move hl rfl) ?_)
              clear hl a; intro a hl
              first | refine wl (w_loadA hl hh rfl trivial agg36 rfl (by repeat (first | exact find_head | apply find_tail)) (by first | (simp only [List.getElem?_cons_zero, List.getElem?_cons_succ, Value.cells, List.take_zero, List.take_succ_cons, List.take_nil, List.drop_zero, List.drop_succ_cons, List.drop_nil, List.length_cons, List.length_nil, List.cons_append, List.nil_append, List.append_nil, Nat.zero_add, Nat.add_zero, Nat.reduceAdd, Nat.reduceBEq, Nat.reduceEqDiff, Nat.ble, BEq.rfl, Bool.and_true, Bool.and_self, cond_true, beq_self_eq_true]; rfl)) (by first | rfl | (simp; done)) ?_) | refine wl (w_loadRA hl hh rfl trivial agg36 rfl hm (by simp) hqv rfl ?_)
              clear hl a; intro a hl
              refine wl (w_call hl hh rfl trivial rfl cal17 rfl (gdo_spec gb b hI.inv (by omega) s.1.rs s.1.rv s.1.Er hI.row (by have := hI.len; omega) ⟨kd2, x2, A2, B2, E2, D2⟩ hok) (by repeat (first | exact keeps_nil | apply keeps_cons (by repeat (first | exact find_head | apply find_tail)) (by first  | rfl) | exact keeps_self | apply keeps_mv)) trivial ?_)
              clear hl hh a w; intro vc Fc a w hR hl hh
              obtain ⟨rfl, rv2, E3, hR2, rfl⟩ := hR
              try simp only [List.cons_append, List.nil_append] at hh
              replace hh := has_comm2 hh; simp only [List.cons_append, List.nil_append, List.append_nil] at hh; have hts := doF_st s.1.f ⟨kd2, x2, A2, B2, E2, D2⟩; generalize hr : (doF s.1.f ⟨kd2, x2, A2, B2, E2, D2⟩).ans = r at hl hts; obtain ⟨t, pp, u, u1⟩ := r; simp only [Ans.l] at hl; simp only at hts
              have hsm := doF_sameBut s.1.f ⟨kd2, x2, A2, B2, E2, D2⟩ (fun e z => by obtain ⟨_, _, z3⟩ := doF_alloc s.1.f ⟨kd2, x2, A2, B2, E2, D2⟩ e z; obtain ⟨y1, y2, _⟩ := hI.inv.allocOk A2 z3; simp only at e; omega) (fun e => by simp only at e; omega)
              have hfr := hsm.fresh
              obtain ⟨l2, hl2⟩ : ∃ l2, l2 = s.2 := ⟨_, rfl⟩
              have hla : l2.1 = s.2.1 := by rw [hl2]
              have hlb : l2.2 = s.2.2 := by rw [hl2]
              have hN : J8 G (doF s.1.f ⟨kd2, x2, A2, B2, E2, D2⟩).f fl2 (s.1.i + 1) l2 := by rw [hl2]; exact hJ.same hsm hI.inv hI2
              refine w_nil ?_
              have hl2 := hl.add (t := 3) (hl.add (t := 5) (hl.add (t := 7) (hl.add (t := 8) (hl.add (t := 9) (hl.add (t := 39) (hl.add (t := 40) (hl.add (t := 41) (hl.nil) rfl) rfl) rfl) rfl) rfl) rfl) rfl) rfl; clear hl; have hl := hl2; clear hl2
              refine then_normal ?_
              refine wp_exit ?_
              refine then_exit ?_
              refine blk_exit ?_
              refine then_normal ?_
              refine c_region ?_
              first | refine wl (wl_val hl rfl trivial (r_add hl rfl rfl (by simp only [Fits]; omega)) ?_) | refine wl (wl_val hl rfl trivial (r_addW hl rfl rfl) ?_)
              clear hl a; intro a hl
              refine wl (wl_val hl rfl trivial (r_move hl rfl) ?_)
              clear hl a; intro a hl
              refine w_nil ?_
              have hl2 := hl.add (t := 3) (hl.add (t := 5) (hl.add (t := 7) (hl.add (t := 8) (hl.add (t := 9) (hl.add (t := 39) (hl.add (t := 40) (hl.add (t := 41) (hl.nil) rfl) rfl) rfl) rfl) rfl) rfl) rfl) rfl; clear hl; have hl := hl2; clear hl2
              refine then_normal ?_
              refine ⟨(⟨s.1.i + 1, (doF s.1.f ⟨kd2, x2, A2, B2, E2, D2⟩).f, fl2, keepF s.1.rs ⟨kd2, x2, A2, B2, E2, D2⟩ (doF s.1.f ⟨kd2, x2, A2, B2, E2, D2⟩).ans, rv2, E3⟩, l2), (by dsimp only; omega), ⟨hI.next hi hok hI2 hR2, hN⟩, hl.addE (t := 41) (hl.addE (t := 3) (hl.addE (t := 5) (hl.addE (t := 7) (hl.addE (t := 8) (hl.addE (t := 9) (hl.addE (t := 39) (hl.addE (t := 40) (hl.nil) rfl (by first | rfl | rfl)) rfl (by first | rfl | rfl)) rfl (by first | rfl | rfl)) rfl (by first | rfl | rfl)) rfl (by first | rfl | rfl)) rfl (by first | rfl | rfl)) rfl (by first | rfl | rfl)) rfl (by first | rfl | rfl), (by simp only [List.cons_append, List.nil_append, List.append_nil]; exact hh.keep (by repeat (first | exact keeps_nil | apply keeps_cons (by repeat (first | exact find_head | apply find_tail)) (by first  | (rw [hla]; done) | (rw [hlb]; done) | exact uIn_all hIx hOk (by omega) | exact uV_same hfr | rfl) | exact keeps_self | apply keeps_mv)))⟩
            · intro hg3; clear hl; intro hl
              try simp only [decide_eq_true_eq, decide_eq_false_iff_not, Bool.not_eq_true', Bool.not_eq_false', Bool.not_eq_true, Bool.not_eq_false, Bool.and_eq_true, Bool.or_eq_true, Bool.and_eq_false_iff, Bool.or_eq_false_iff, Bool.not_not, ne_eq, Int.not_lt, Int.not_le, Decidable.not_not, beq_iff_eq, bne_iff_ne] at hg3
              refine wl (wl_val hl rfl ⟨_, _, rfl, rfl, rfl⟩ (r_field hl rfl fld36_2) ?_)
              clear hl a; intro a hl
              refine wl (w_load hl hh rfl ⟨_, _, rfl, rfl, rfl⟩ one27 rfl (by repeat (first | exact find_head | apply find_tail)) (by first | rfl) ?_)
              clear hl a; intro a hl
              refine wl (wl_val hl rfl ⟨_, _, rfl, rfl, rfl⟩ (r_gtr hl rfl rfl) ?_)
              clear hl a; intro a hl
              refine wl (wl_val hl rfl trivial (r_pickF hl rfl rfl) ?_)
              clear hl a; intro a hl
              refine w_nil ?_
              have hl2 := hl.add (t := 3) (hl.add (t := 5) (hl.add (t := 7) (hl.add (t := 8) (hl.add (t := 9) (hl.add (t := 12) (hl.add (t := 39) (hl.add (t := 40) (hl.add (t := 41) (hl.add (t := 84) (hl.nil) rfl) rfl) rfl) rfl) rfl) rfl) rfl) rfl) rfl) rfl; clear hl; have hl := hl2; clear hl2
              refine then_normal ?_
              refine c_cond hl rfl ?_ ?_
              · intro hc4
                try simp only [decide_eq_true_eq, decide_eq_false_iff_not, Bool.not_eq_true', Bool.not_eq_false', Bool.not_eq_true, Bool.not_eq_false, Bool.and_eq_true, Bool.or_eq_true, Bool.and_eq_false_iff, Bool.or_eq_false_iff, Bool.not_not, ne_eq, Int.not_lt, Int.not_le, Decidable.not_not, beq_iff_eq, bne_iff_ne] at hc4
                refine c_seq ?_
                refine c_region ?_
                refine wl (wl_val hl rfl trivial (r_move hl rfl) ?_)
                clear hl a; intro a hl
                first | refine wl (w_loadA hl hh rfl trivial agg36 rfl (by repeat (first | exact find_head | apply find_tail)) (by first | (simp only [List.getElem?_cons_zero, List.getElem?_cons_succ, Value.cells, List.take_zero, List.take_succ_cons, List.take_nil, List.drop_zero, List.drop_succ_cons, List.drop_nil, List.length_cons, List.length_nil, List.cons_append, List.nil_append, List.append_nil, Nat.zero_add, Nat.add_zero, Nat.reduceAdd, Nat.reduceBEq, Nat.reduceEqDiff, Nat.ble, BEq.rfl, Bool.and_true, Bool.and_self, cond_true, beq_self_eq_true]; rfl)) (by first | rfl | (simp; done)) ?_) | refine wl (w_loadRA hl hh rfl trivial agg36 rfl hm (by simp) hqv rfl ?_)
                clear hl a; intro a hl
                refine wl (w_call hl hh rfl trivial rfl cal17 rfl (gdo_spec gb b hI.inv (by omega) s.1.rs s.1.rv s.1.Er hI.row (by have := hI.len; omega) ⟨kd2, x2, A2, B2, E2, D2⟩ hok) (by repeat (first | exact keeps_nil | apply keeps_cons (by repeat (first | exact find_head | apply find_tail)) (by first  | rfl) | exact keeps_self | apply keeps_mv)) trivial ?_)
                clear hl hh a w; intro vc Fc a w hR hl hh
                obtain ⟨rfl, rv2, E3, hR2, rfl⟩ := hR
                try simp only [List.cons_append, List.nil_append] at hh
                replace hh := has_comm2 hh; simp only [List.cons_append, List.nil_append, List.append_nil] at hh; have hts := doF_st s.1.f ⟨kd2, x2, A2, B2, E2, D2⟩; generalize hr : (doF s.1.f ⟨kd2, x2, A2, B2, E2, D2⟩).ans = r at hl hts; obtain ⟨t, pp, u, u1⟩ := r; simp only [Ans.l] at hl; simp only at hts
                have hsm := doF_sameBut s.1.f ⟨kd2, x2, A2, B2, E2, D2⟩ (fun e z => by obtain ⟨_, _, z3⟩ := doF_alloc s.1.f ⟨kd2, x2, A2, B2, E2, D2⟩ e z; obtain ⟨y1, y2, _⟩ := hI.inv.allocOk A2 z3; simp only at e; omega) (fun e => by simp only at e; omega)
                have hfr := hsm.fresh
                obtain ⟨l2, hl2⟩ : ∃ l2, l2 = s.2 := ⟨_, rfl⟩
                have hla : l2.1 = s.2.1 := by rw [hl2]
                have hlb : l2.2 = s.2.2 := by rw [hl2]
                have hN : J8 G (doF s.1.f ⟨kd2, x2, A2, B2, E2, D2⟩).f fl2 (s.1.i + 1) l2 := by rw [hl2]; exact hJ.same hsm hI.inv hI2
                refine w_nil ?_
                have hl2 := hl.add (t := 3) (hl.add (t := 5) (hl.add (t := 7) (hl.add (t := 8) (hl.add (t := 9) (hl.add (t := 39) (hl.add (t := 40) (hl.add (t := 41) (hl.nil) rfl) rfl) rfl) rfl) rfl) rfl) rfl) rfl; clear hl; have hl := hl2; clear hl2
                refine then_normal ?_
                refine wp_exit ?_
                refine then_exit ?_
                refine blk_exit ?_
                refine then_normal ?_
                refine c_region ?_
                first | refine wl (wl_val hl rfl trivial (r_add hl rfl rfl (by simp only [Fits]; omega)) ?_) | refine wl (wl_val hl rfl trivial (r_addW hl rfl rfl) ?_)
                clear hl a; intro a hl
                refine wl (wl_val hl rfl trivial (r_move hl rfl) ?_)
                clear hl a; intro a hl
                refine w_nil ?_
                have hl2 := hl.add (t := 3) (hl.add (t := 5) (hl.add (t := 7) (hl.add (t := 8) (hl.add (t := 9) (hl.add (t := 39) (hl.add (t := 40) (hl.add (t := 41) (hl.nil) rfl) rfl) rfl) rfl) rfl) rfl) rfl) rfl; clear hl; have hl := hl2; clear hl2
                refine then_normal ?_
                refine ⟨(⟨s.1.i + 1, (doF s.1.f ⟨kd2, x2, A2, B2, E2, D2⟩).f, fl2, keepF s.1.rs ⟨kd2, x2, A2, B2, E2, D2⟩ (doF s.1.f ⟨kd2, x2, A2, B2, E2, D2⟩).ans, rv2, E3⟩, l2), (by dsimp only; omega), ⟨hI.next hi hok hI2 hR2, hN⟩, hl.addE (t := 41) (hl.addE (t := 3) (hl.addE (t := 5) (hl.addE (t := 7) (hl.addE (t := 8) (hl.addE (t := 9) (hl.addE (t := 39) (hl.addE (t := 40) (hl.nil) rfl (by first | rfl | rfl)) rfl (by first | rfl | rfl)) rfl (by first | rfl | rfl)) rfl (by first | rfl | rfl)) rfl (by first | rfl | rfl)) rfl (by first | rfl | rfl)) rfl (by first | rfl | rfl)) rfl (by first | rfl | rfl), (by simp only [List.cons_append, List.nil_append, List.append_nil]; exact hh.keep (by repeat (first | exact keeps_nil | apply keeps_cons (by repeat (first | exact find_head | apply find_tail)) (by first  | (rw [hla]; done) | (rw [hlb]; done) | exact uIn_all hIx hOk (by omega) | exact uV_same hfr | rfl) | exact keeps_self | apply keeps_mv)))⟩
              · intro hc4
                try simp only [decide_eq_true_eq, decide_eq_false_iff_not, Bool.not_eq_true', Bool.not_eq_false', Bool.not_eq_true, Bool.not_eq_false, Bool.and_eq_true, Bool.or_eq_true, Bool.and_eq_false_iff, Bool.or_eq_false_iff, Bool.not_not, ne_eq, Int.not_lt, Int.not_le, Decidable.not_not, beq_iff_eq, bne_iff_ne] at hc4
                refine wp_skip ?_
                refine then_normal ?_
                refine c_seq ?_
                refine c_region ?_
                refine wl (wl_val hl rfl trivial (r_field hl rfl fld36_2) ?_)
                clear hl a; intro a hl
                refine wl (w_load hl hh rfl trivial one27 rfl (by repeat (first | exact find_head | apply find_tail)) (by first | rfl) ?_)
                clear hl a; intro a hl
                refine wl (w_call hl hh rfl trivial rfl cal28 rfl (nodeSize_spec A2 (by omega)) (by repeat (first | exact keeps_nil | apply keeps_cons (by repeat (first | exact find_head | apply find_tail)) (by first  | rfl) | exact keeps_self | apply keeps_mv)) trivial ?_)
                clear hl hh a w; intro vc Fc a w hR hl hh
                obtain ⟨rfl, rfl⟩ := hR
                try simp only [List.cons_append, List.nil_append] at hh
                obtain ⟨sx, hsx⟩ : ∃ sx, sx = (A2 + 1) / 2 * 2 := ⟨_, rfl⟩; rw [← hsx] at hl
                refine wl (wl_val hl rfl trivial (r_assign hl rfl) ?_)
                clear hl a; intro a hl
                refine w_nil ?_
                have hl2 := hl.add (t := 3) (hl.add (t := 5) (hl.add (t := 7) (hl.add (t := 8) (hl.add (t := 9) (hl.add (t := 12) (hl.add (t := 14) (hl.add (t := 39) (hl.add (t := 40) (hl.add (t := 41) (hl.nil) rfl) rfl) rfl) rfl) rfl) rfl) rfl) rfl) rfl) rfl; clear hl; have hl := hl2; clear hl2
                refine then_normal ?_
                refine c_seq ?_
                refine c_region ?_
                refine wl (wl_val hl rfl trivial (r_move hl rfl) ?_)
                clear hl a; intro a hl
                refine wl (wl_val hl rfl trivial (r_nilCheck hl rfl) ?_)
                clear hl a; intro a hl
                refine wl (wl_val hl rfl trivial (r_field hl rfl fld41_0) ?_)
                clear hl a; intro a hl
                refine wl (w_load hl hh rfl trivial one38 rfl (by repeat (first | exact find_head | apply find_tail)) (by first | rfl) ?_)
                clear hl a; intro a hl
                refine wl (w_call hl hh rfl trivial rfl cal25 rfl (clone_spec b s.1.f) (by repeat (first | exact keeps_nil | apply keeps_cons (by repeat (first | exact find_head | apply find_tail)) (by first  | rfl) | exact keeps_self | apply keeps_mv)) trivial ?_)
                clear hl hh a w; intro vc Fc a w hR hl hh
                obtain ⟨kc, rfl, rfl⟩ := hR
                try simp only [List.cons_append, List.nil_append] at hh
                refine wl (wl_val hl rfl trivial (r_assign hl rfl) ?_)
                clear hl a; intro a hl
                refine w_nil ?_
                have hl2 := hl.add (t := 3) (hl.add (t := 5) (hl.add (t := 7) (hl.add (t := 8) (hl.add (t := 9) (hl.add (t := 12) (hl.add (t := 14) (hl.add (t := 15) (hl.add (t := 39) (hl.add (t := 40) (hl.add (t := 41) (hl.nil) rfl) rfl) rfl) rfl) rfl) rfl) rfl) rfl) rfl) rfl) rfl; clear hl; have hl := hl2; clear hl2
                refine then_normal ?_
                refine c_seq ?_
                refine c_region ?_
                refine wl (wl_val hl rfl trivial (r_move hl rfl) ?_)
                clear hl a; intro a hl
                first | refine wl (w_loadA hl hh rfl trivial agg36 rfl (by repeat (first | exact find_head | apply find_tail)) (by first | (simp only [List.getElem?_cons_zero, List.getElem?_cons_succ, Value.cells, List.take_zero, List.take_succ_cons, List.take_nil, List.drop_zero, List.drop_succ_cons, List.drop_nil, List.length_cons, List.length_nil, List.cons_append, List.nil_append, List.append_nil, Nat.zero_add, Nat.add_zero, Nat.reduceAdd, Nat.reduceBEq, Nat.reduceEqDiff, Nat.ble, BEq.rfl, Bool.and_true, Bool.and_self, cond_true, beq_self_eq_true]; rfl)) (by first | rfl | (simp; done)) ?_) | refine wl (w_loadRA hl hh rfl trivial agg36 rfl hm (by simp) hqv rfl ?_)
                clear hl a; intro a hl
                refine wl (w_call hl hh rfl trivial rfl cal17 rfl (gdo_spec gb b hI.inv (by omega) s.1.rs s.1.rv s.1.Er hI.row (by have := hI.len; omega) ⟨kd2, x2, A2, B2, E2, D2⟩ hok) (by repeat (first | exact keeps_nil | apply keeps_cons (by repeat (first | exact find_head | apply find_tail)) (by first  | rfl) | exact keeps_self | apply keeps_mv)) trivial ?_)
                clear hl hh a w; intro vc Fc a w hR hl hh
                obtain ⟨rfl, rv2, E3, hR2, rfl⟩ := hR
                try simp only [List.cons_append, List.nil_append] at hh
                replace hh := has_comm2 hh; simp only [List.cons_append, List.nil_append, List.append_nil] at hh; have hts := doF_st s.1.f ⟨kd2, x2, A2, B2, E2, D2⟩; generalize hr : (doF s.1.f ⟨kd2, x2, A2, B2, E2, D2⟩).ans = r at hl hts; obtain ⟨t, pp, u, u1⟩ := r; simp only [Ans.l] at hl; simp only at hts
                refine wl (w_alloc hl hh rfl trivial zero44 rfl ?_)
                clear hl hh a w; intro k16 a w hl hh
                refine wl (w_storeA hl hh trivial agg44 rfl rfl (by repeat (first | exact find_head | apply find_tail)) (by first | rfl | (simp; done)) (by first | (simp; done) | (simp; omega)) (by first | rfl | (simp; done)) (by first | (simp only [setL, List.getElem?_cons_zero, List.getElem?_cons_succ, Value.cells, List.take_zero, List.take_succ_cons, List.take_nil, List.drop_zero, List.drop_succ_cons, List.drop_nil, List.length_cons, List.length_nil, List.cons_append, List.nil_append, List.append_nil, Nat.zero_add, Nat.add_zero, Nat.reduceAdd, Nat.reduceBEq, Nat.reduceEqDiff, Nat.ble, BEq.rfl, Bool.and_true, Bool.and_self, cond_true, beq_self_eq_true]; rfl)) ?_)
                clear hh w; intro w hh
                refine w_nil ?_
                have hl2 := hl.add (t := 3) (hl.add (t := 5) (hl.add (t := 7) (hl.add (t := 8) (hl.add (t := 9) (hl.add (t := 14) (hl.add (t := 15) (hl.add (t := 16) (hl.add (t := 39) (hl.add (t := 40) (hl.add (t := 41) (hl.nil) rfl) rfl) rfl) rfl) rfl) rfl) rfl) rfl) rfl) rfl) rfl; clear hl; have hl := hl2; clear hl2
                refine then_normal ?_
                refine c_seq ?_
                refine c_region ?_
                refine wl (wl_val hl rfl trivial (r_field hl rfl fld44_0) ?_)
                clear hl a; intro a hl
                refine wl (w_load hl hh rfl trivial one42 rfl (by repeat (first | exact find_head | apply find_tail)) (by first | rfl) ?_)
                clear hl a; intro a hl
                refine w_nil ?_
                have hl2 := hl.add (t := 3) (hl.add (t := 5) (hl.add (t := 7) (hl.add (t := 8) (hl.add (t := 9) (hl.add (t := 14) (hl.add (t := 15) (hl.add (t := 16) (hl.add (t := 39) (hl.add (t := 40) (hl.add (t := 41) (hl.add (t := 100) (hl.nil) rfl) rfl) rfl) rfl) rfl) rfl) rfl) rfl) rfl) rfl) rfl) rfl; clear hl; have hl := hl2; clear hl2
                refine then_normal ?_
                refine wp_block ?_
                refine c_seq ?_
                refine c_region ?_
                refine wl (wl_val hl rfl trivial (r_eql hl rfl rfl) ?_)
                clear hl a; intro a hl
                refine wl (wl_val hl rfl trivial (r_assign hl rfl) ?_)
                clear hl a; intro a hl
                refine w_nil ?_
                have hl2 := hl.add (t := 3) (hl.add (t := 5) (hl.add (t := 7) (hl.add (t := 8) (hl.add (t := 9) (hl.add (t := 14) (hl.add (t := 15) (hl.add (t := 16) (hl.add (t := 39) (hl.add (t := 40) (hl.add (t := 41) (hl.add (t := 100) (hl.add (t := 101) (hl.nil) rfl) rfl) rfl) rfl) rfl) rfl) rfl) rfl) rfl) rfl) rfl) rfl) rfl; clear hl; have hl := hl2; clear hl2
                refine then_normal ?_
                refine c_cond hl rfl ?_ ?_
                · intro hc5
                  try simp only [decide_eq_true_eq, decide_eq_false_iff_not, Bool.not_eq_true', Bool.not_eq_false', Bool.not_eq_true, Bool.not_eq_false, Bool.and_eq_true, Bool.or_eq_true, Bool.and_eq_false_iff, Bool.or_eq_false_iff, Bool.not_not, ne_eq, Int.not_lt, Int.not_le, Decidable.not_not, beq_iff_eq, bne_iff_ne] at hc5
                  obtain ⟨hA1, hA2, hA3⟩ := doF_alloc s.1.f ⟨kd2, x2, A2, B2, E2, D2⟩ (by simp only; omega) (by rw [hr]; simp only; omega)
                  obtain ⟨hA4, hA5, xx, flx, hIx, hOk, href⟩ := hI.inv.allocOk A2 hA3
                  obtain ⟨r0, hr0⟩ : ∃ r0 : Nat, r0 = ((gen s.1.f xx).toNat + 1) * 65536 + xx := ⟨_, rfl⟩
                  rw [← hr0] at href
                  rw [hr, href] at hA2
                  injection hA2 with _ _ e2 _
                  subst e2
                  rw [← hA1] at hOk hIx
                  rw [← hsx] at hOk
                  have hk1 := hOk.s1
                  have hk2 := hOk.s2
                  have hk3 := hOk.x1
                  have hk4 := hOk.xs
                  have hk5 := hOk.g0
                  obtain ⟨hmod, hdiv⟩ := ref_parts (by omega) hr0
                  obtain ⟨hlw, hln⟩ := hJ.at_ hk1 hk2 hOk.s3
                  refine c_seq ?_
                  refine c_region ?_
                  refine wl (wl_val hl rfl trivial (r_field hl rfl fld44_2) ?_)
                  clear hl a; intro a hl
                  refine wl (w_load hl hh rfl trivial one27 rfl (by repeat (first | exact find_head | apply find_tail)) (by first | rfl) ?_)
                  clear hl a; intro a hl
                  refine wl (wl_val hl rfl trivial (r_assign hl rfl) ?_)
                  clear hl a; intro a hl
                  refine w_nil ?_
                  have hl2 := hl.add (t := 3) (hl.add (t := 5) (hl.add (t := 7) (hl.add (t := 8) (hl.add (t := 9) (hl.add (t := 14) (hl.add (t := 17) (hl.add (t := 39) (hl.add (t := 40) (hl.add (t := 41) (hl.nil) rfl) rfl) rfl) rfl) rfl) rfl) rfl) rfl) rfl) rfl; clear hl; have hl := hl2; clear hl2
                  refine then_normal ?_
                  refine c_seq ?_
                  refine c_region ?_
                  refine wl (wl_val hl rfl trivial (r_move hl rfl) ?_)
                  clear hl a; intro a hl
                  refine wl (wl_val hl rfl trivial (r_move hl rfl) ?_)
                  clear hl a; intro a hl
                  refine wl (wl_val hl rfl trivial (r_move hl rfl) ?_)
                  clear hl a; intro a hl
                  refine wl (w_mapUpdate (keyInt Try.underlying63) Try.underlying52 hl hh trivial rfl rfl rfl (by repeat (first | exact find_head | apply find_tail)) ?_)
                  clear hh w; intro w hh
                  refine w_nil ?_
                  have hl2 := hl.add (t := 3) (hl.add (t := 5) (hl.add (t := 7) (hl.add (t := 8) (hl.add (t := 9) (hl.add (t := 14) (hl.add (t := 17) (hl.add (t := 39) (hl.add (t := 40) (hl.add (t := 41) (hl.nil) rfl) rfl) rfl) rfl) rfl) rfl) rfl) rfl) rfl) rfl; clear hl; have hl := hl2; clear hl2
                  refine then_normal ?_
                  refine c_seq ?_
                  refine c_seq ?_
                  refine c_region ?_
                  refine wl (wl_val hl rfl trivial (r_move hl rfl) ?_)
                  clear hl a; intro a hl
                  refine wl (w_call hl hh rfl trivial rfl cal27 rfl (refAddr_spec r0) (by repeat (first | exact keeps_nil | apply keeps_cons (by repeat (first | exact find_head | apply find_tail)) (by first  | rfl) | exact keeps_self | apply keeps_mv)) trivial ?_)
                  clear hl hh a w; intro vc Fc a w hR hl hh
                  obtain ⟨rfl, rfl⟩ := hR
                  try simp only [List.cons_append, List.nil_append] at hh
                  rw [hmod] at hl
                  refine wl (wl_val hl rfl trivial (r_indexA hl rfl rfl arr62 (by omega) (by omega) (by first | (simp only [Int.reduceToNat]; rfl) | exact toNat_add1 _ | exact toNat_add2 _ _ | exact toNat_emod _ _ | exact Int.toNat_natCast _ | rfl)) ?_)
                  clear hl a; intro a hl
                  refine wl (w_load hl hh rfl trivial one4 rfl (by repeat (first | exact find_head | apply find_tail)) (by exact arr_load (by omega)) ?_)
                  clear hl a; intro a hl
                  refine w_nil ?_
                  have hl2 := hl.add (t := 3) (hl.add (t := 5) (hl.add (t := 7) (hl.add (t := 8) (hl.add (t := 9) (hl.add (t := 14) (hl.add (t := 17) (hl.add (t := 39) (hl.add (t := 40) (hl.add (t := 41) (hl.add (t := 111) (hl.nil) rfl) rfl) rfl) rfl) rfl) rfl) rfl) rfl) rfl) rfl) rfl; clear hl; have hl := hl2; clear hl2
                  refine then_normal ?_
                  refine c_cond hl rfl ?_ ?_
                  · intro hc6
                    try simp only [decide_eq_true_eq, decide_eq_false_iff_not, Bool.not_eq_true', Bool.not_eq_false', Bool.not_eq_true, Bool.not_eq_false, Bool.and_eq_true, Bool.or_eq_true, Bool.and_eq_false_iff, Bool.or_eq_false_iff, Bool.not_not, ne_eq, Int.not_lt, Int.not_le, Decidable.not_not, beq_iff_eq, bne_iff_ne] at hc6
                    obtain ⟨hp1, hp2⟩ := hJ.pop hOk hr0 hIx hI2 hc6
                    obtain ⟨l2, hl2⟩ : ∃ l2 : List (Int × Value) × List (Int × Value), l2 = (mput s.2.1 (r0 : Int) (.int .i64 sx), mput s.2.2 (sx : Int) (.int .i64 (((s.1.fl (sx / 2 - 1)).length : Int) - 1))) := ⟨_, rfl⟩
                    have hla : l2.1 = ((mput s.2.1 (r0 : Int) (.int .i64 sx), mput s.2.2 (sx : Int) (.int .i64 (((s.1.fl (sx / 2 - 1)).length : Int) - 1))) : List (Int × Value) × List (Int × Value)).1 := by rw [hl2]
                    have hlb : l2.2 = ((mput s.2.1 (r0 : Int) (.int .i64 sx), mput s.2.2 (sx : Int) (.int .i64 (((s.1.fl (sx / 2 - 1)).length : Int) - 1))) : List (Int × Value) × List (Int × Value)).2 := by rw [hl2]
                    simp only at hla hlb
                    have hN : J8 G (doF s.1.f ⟨kd2, x2, A2, B2, E2, D2⟩).f fl2 (s.1.i + 1) l2 := by rw [hl2]; exact hp2
                    refine c_region ?_
                    refine wl (wl_val hl rfl trivial (r_move hl rfl) ?_)
                    clear hl a; intro a hl
                    refine wl (wl_val hl rfl trivial (r_move hl rfl) ?_)
                    clear hl a; intro a hl
                    refine wl (w_lookup (keyInt Try.underlying3) Try.underlying69 zero3 hl hh rfl trivial rfl rfl (by repeat (first | exact find_head | apply find_tail)) ?_)
                    clear hl a; intro a hl
                    rw [hlw] at hl
                    first | refine wl (wl_val hl rfl trivial (r_sub hl rfl rfl (by simp only [Fits]; omega)) ?_) | refine wl (wl_val hl rfl trivial (r_subW hl rfl rfl) ?_)
                    clear hl a; intro a hl
                    refine wl (w_mapUpdate (keyInt Try.underlying3) Try.underlying69 hl hh trivial rfl rfl rfl (by repeat (first | exact find_head | apply find_tail)) ?_)
                    clear hh w; intro w hh
                    refine w_nil ?_
                    have hl2 := hl.add (t := 3) (hl.add (t := 5) (hl.add (t := 7) (hl.add (t := 8) (hl.add (t := 9) (hl.add (t := 14) (hl.add (t := 17) (hl.add (t := 39) (hl.add (t := 40) (hl.add (t := 41) (hl.nil) rfl) rfl) rfl) rfl) rfl) rfl) rfl) rfl) rfl) rfl; clear hl; have hl := hl2; clear hl2
                    refine then_normal ?_
                    refine c_seq ?_
                    refine c_region ?_
                    refine wl (wl_val hl rfl trivial (r_assign hl rfl) ?_)
                    clear hl a; intro a hl
                    refine w_nil ?_
                    have hl2 := hl.add (t := 3) (hl.add (t := 5) (hl.add (t := 7) (hl.add (t := 8) (hl.add (t := 9) (hl.add (t := 14) (hl.add (t := 17) (hl.add (t := 18) (hl.add (t := 39) (hl.add (t := 40) (hl.add (t := 41) (hl.nil) rfl) rfl) rfl) rfl) rfl) rfl) rfl) rfl) rfl) rfl) rfl; clear hl; have hl := hl2; clear hl2
                    refine then_normal ?_
                    refine wp_block ?_
                    obtain ⟨KS1, hKS1, hk⟩ := (hl.add (t := 3) (hl.add (t := 5) (hl.add (t := 7) (hl.add (t := 8) (hl.add (t := 9) (hl.add (t := 14) (hl.add (t := 17) (hl.add (t := 39) (hl.add (t := 40) (hl.add (t := 41) (hl.nil) rfl) rfl) rfl) rfl) rfl) rfl) rfl) rfl) rfl) rfl).name
                    obtain ⟨HS1, hHS1, hh2⟩ := hh.name (keeps_cons (b := k7) (o' := C (arrL 4096 (uIn s.1.f xx 0)) 62) (by repeat (first | exact find_head | apply find_tail)) (by first | exact uIn_zero _ _ | rfl) (keeps_nil))
                    refine c_loop (α := Nat) (fun i => sx - i) (fun i a w => (i ≤ sx) ∧ Sl 155 ([(18, .int .i64 i)] ++ KS1) a ∧ Has _ w0 ([(k7, C (arrL 4096 (uIn s.1.f xx i)) 62)] ++ HS1) w) 0 ⟨(by omega), hl.addE (t := 18) (hk) rfl (by first | rfl), hh2⟩ ?_
                    clear hk hh2 hl hh a w
                    intro i a w hI
                    obtain ⟨hi2, hl, hh⟩ := hI
                    subst hKS1; subst hHS1
                    simp only [List.cons_append, List.nil_append, List.append_nil] at hl hh
                    refine c_seq ?_
                    refine c_seq ?_
                    refine c_region ?_
                    refine wl (wl_val hl rfl trivial (r_move hl rfl) ?_)
                    clear hl a; intro a hl
                    refine wl (wl_val hl rfl trivial (r_move hl rfl) ?_)
                    clear hl a; intro a hl
                    refine wl (wl_val hl rfl trivial (r_lss hl rfl rfl) ?_)
                    clear hl a; intro a hl
                    refine w_nil ?_
                    have hl2 := hl.add (t := 3) (hl.add (t := 5) (hl.add (t := 7) (hl.add (t := 8) (hl.add (t := 9) (hl.add (t := 14) (hl.add (t := 17) (hl.add (t := 18) (hl.add (t := 39) (hl.add (t := 40) (hl.add (t := 41) (hl.add (t := 118) (hl.nil) rfl) rfl) rfl) rfl) rfl) rfl) rfl) rfl) rfl) rfl) rfl) rfl; clear hl; have hl := hl2; clear hl2
                    refine then_normal ?_
                    refine c_cond hl rfl ?_ ?_
                    · intro hc7
                      try simp only [decide_eq_true_eq, decide_eq_false_iff_not, Bool.not_eq_true', Bool.not_eq_false', Bool.not_eq_true, Bool.not_eq_false, Bool.and_eq_true, Bool.or_eq_true, Bool.and_eq_false_iff, Bool.or_eq_false_iff, Bool.not_not, ne_eq, Int.not_lt, Int.not_le, Decidable.not_not, beq_iff_eq, bne_iff_ne] at hc7
                      refine wp_skip ?_
                      refine then_normal ?_
                      refine c_seq ?_
                      refine wp_block ?_
                      refine c_region ?_
                      refine wl (wl_val hl rfl trivial (r_move hl rfl) ?_)
                      clear hl a; intro a hl
                      refine wl (w_call hl hh rfl trivial rfl cal27 rfl (refAddr_spec r0) (by repeat (first | exact keeps_nil | apply keeps_cons (by repeat (first | exact find_head | apply find_tail)) (by first  | rfl) | exact keeps_self | apply keeps_mv)) trivial ?_)
                      clear hl hh a w; intro vc Fc a w hR hl hh
                      obtain ⟨rfl, rfl⟩ := hR
                      try simp only [List.cons_append, List.nil_append] at hh
                      rw [hmod] at hl
                      first | refine wl (wl_val hl rfl trivial (r_conv hl rfl Try.underlying34 Try.underlying3 (by simp only [Fits]; omega)) ?_) | refine wl (wl_val hl rfl trivial (r_convW hl rfl Try.underlying34 Try.underlying3) ?_)
                      clear hl a; intro a hl
                      refine wl (wl_val hl rfl trivial (r_move hl rfl) ?_)
                      clear hl a; intro a hl
                      first | refine wl (wl_val hl rfl trivial (r_add hl rfl rfl (by simp only [Fits]; omega)) ?_) | refine wl (wl_val hl rfl trivial (r_addW hl rfl rfl) ?_)
                      clear hl a; intro a hl
                      refine wl (wl_val hl rfl trivial (r_indexA hl rfl rfl arr62 (by omega) (by omega) (by first | (simp only [Int.reduceToNat]; rfl) | exact toNat_add1 _ | exact toNat_add2 _ _ | exact toNat_emod _ _ | exact Int.toNat_natCast _ | rfl)) ?_)
                      clear hl a; intro a hl
                      refine wl (w_store hl hh trivial one4 rfl rfl (by repeat (first | exact find_head | apply find_tail)) (by rw [arrL_length]; omega) (by first | rfl | (apply Row.one; assumption)) (by exact arr_store (by omega)) ?_)
                      clear hh w; intro w hh
                      refine w_nil ?_
                      have hl2 := hl.add (t := 3) (hl.add (t := 5) (hl.add (t := 7) (hl.add (t := 8) (hl.add (t := 9) (hl.add (t := 14) (hl.add (t := 17) (hl.add (t := 18) (hl.add (t := 39) (hl.add (t := 40) (hl.add (t := 41) (hl.nil) rfl) rfl) rfl) rfl) rfl) rfl) rfl) rfl) rfl) rfl) rfl; clear hl; have hl := hl2; clear hl2
                      refine blk_normal ?_
                      refine then_normal ?_
                      refine c_region ?_
                      refine wl (wl_val hl rfl trivial (r_move hl rfl) ?_)
                      clear hl a; intro a hl
                      first | refine wl (wl_val hl rfl trivial (r_add hl rfl rfl (by simp only [Fits]; omega)) ?_) | refine wl (wl_val hl rfl trivial (r_addW hl rfl rfl) ?_)
                      clear hl a; intro a hl
                      refine wl (wl_val hl rfl trivial (r_assign hl rfl) ?_)
                      clear hl a; intro a hl
                      refine w_nil ?_
                      have hl2 := hl.add (t := 3) (hl.add (t := 5) (hl.add (t := 7) (hl.add (t := 8) (hl.add (t := 9) (hl.add (t := 14) (hl.add (t := 17) (hl.add (t := 18) (hl.add (t := 39) (hl.add (t := 40) (hl.add (t := 41) (hl.nil) rfl) rfl) rfl) rfl) rfl) rfl) rfl) rfl) rfl) rfl) rfl; clear hl; have hl := hl2; clear hl2
                      refine then_normal ?_
                      refine ⟨i + 1, (by omega), (by omega), hl.addE (t := 18) (hl.addE (t := 3) (hl.addE (t := 5) (hl.addE (t := 7) (hl.addE (t := 8) (hl.addE (t := 9) (hl.addE (t := 14) (hl.addE (t := 17) (hl.addE (t := 39) (hl.addE (t := 40) (hl.addE (t := 41) (hl.nil) rfl (by first | rfl | rfl)) rfl (by first | rfl | rfl)) rfl (by first | rfl | rfl)) rfl (by first | rfl | rfl)) rfl (by first | rfl | rfl)) rfl (by first | rfl | rfl)) rfl (by first | rfl | rfl)) rfl (by first | rfl | rfl)) rfl (by first | rfl | rfl)) rfl (by first | rfl | rfl)) rfl (by first | rfl | rfl), hh.keep (by repeat (first | exact keeps_nil | apply keeps_cons (by repeat (first | exact find_head | apply find_tail)) (by first  | exact uIn_succ _ _ _ | rfl) | exact keeps_self | apply keeps_mv))⟩
                    · intro hc7
                      try simp only [decide_eq_true_eq, decide_eq_false_iff_not, Bool.not_eq_true', Bool.not_eq_false', Bool.not_eq_true, Bool.not_eq_false, Bool.and_eq_true, Bool.or_eq_true, Bool.and_eq_false_iff, Bool.or_eq_false_iff, Bool.not_not, ne_eq, Int.not_lt, Int.not_le, Decidable.not_not, beq_iff_eq, bne_iff_ne] at hc7
                      refine wp_exit ?_
                      refine then_exit ?_
                      refine then_exit ?_
                      refine blk_exit ?_
                      refine blk_normal ?_
                      refine blk_normal ?_
                      refine then_normal ?_
                      refine c_region ?_
                      first | refine wl (wl_val hl rfl trivial (r_add hl rfl rfl (by simp only [Fits]; omega)) ?_) | refine wl (wl_val hl rfl trivial (r_addW hl rfl rfl) ?_)
                      clear hl a; intro a hl
                      refine wl (wl_val hl rfl trivial (r_move hl rfl) ?_)
                      clear hl a; intro a hl
                      refine w_nil ?_
                      have hl2 := hl.add (t := 3) (hl.add (t := 5) (hl.add (t := 7) (hl.add (t := 8) (hl.add (t := 9) (hl.add (t := 39) (hl.add (t := 40) (hl.add (t := 41) (hl.nil) rfl) rfl) rfl) rfl) rfl) rfl) rfl) rfl; clear hl; have hl := hl2; clear hl2
                      refine then_normal ?_
                      refine ⟨(⟨s.1.i + 1, (doF s.1.f ⟨kd2, x2, A2, B2, E2, D2⟩).f, fl2, keepF s.1.rs ⟨kd2, x2, A2, B2, E2, D2⟩ (doF s.1.f ⟨kd2, x2, A2, B2, E2, D2⟩).ans, rv2, E3⟩, l2), (by dsimp only; omega), ⟨hI.next hi hok hI2 hR2, hN⟩, hl.addE (t := 41) (hl.addE (t := 3) (hl.addE (t := 5) (hl.addE (t := 7) (hl.addE (t := 8) (hl.addE (t := 9) (hl.addE (t := 39) (hl.addE (t := 40) (hl.nil) rfl (by first | rfl | rfl)) rfl (by first | rfl | rfl)) rfl (by first | rfl | rfl)) rfl (by first | rfl | rfl)) rfl (by first | rfl | rfl)) rfl (by first | rfl | rfl)) rfl (by first | rfl | rfl)) rfl (by first | rfl | rfl), (by simp only [List.cons_append, List.nil_append, List.append_nil]; exact hh.keep (by repeat (first | exact keeps_nil | apply keeps_cons (by repeat (first | exact find_head | apply find_tail)) (by first  | (rw [hla]; done) | (rw [hlb]; done) | exact uIn_all hIx hOk (by omega) | exact uV_same hfr | rfl) | exact keeps_self | apply keeps_mv)))⟩
                  · intro hc6
                    try simp only [decide_eq_true_eq, decide_eq_false_iff_not, Bool.not_eq_true', Bool.not_eq_false', Bool.not_eq_true, Bool.not_eq_false, Bool.and_eq_true, Bool.or_eq_true, Bool.and_eq_false_iff, Bool.or_eq_false_iff, Bool.not_not, ne_eq, Int.not_lt, Int.not_le, Decidable.not_not, beq_iff_eq, bne_iff_ne] at hc6
                    have hp2 := hJ.carve hOk hr0 hIx hI2 (by omega)
                    obtain ⟨l2, hl2⟩ : ∃ l2 : List (Int × Value) × List (Int × Value), l2 = (mput s.2.1 (r0 : Int) (.int .i64 sx), s.2.2) := ⟨_, rfl⟩
                    have hla : l2.1 = ((mput s.2.1 (r0 : Int) (.int .i64 sx), s.2.2) : List (Int × Value) × List (Int × Value)).1 := by rw [hl2]
                    have hlb : l2.2 = ((mput s.2.1 (r0 : Int) (.int .i64 sx), s.2.2) : List (Int × Value) × List (Int × Value)).2 := by rw [hl2]
                    simp only at hla hlb
                    have hN : J8 G (doF s.1.f ⟨kd2, x2, A2, B2, E2, D2⟩).f fl2 (s.1.i + 1) l2 := by rw [hl2]; exact hp2
                    refine wp_skip ?_
                    refine then_normal ?_
                    refine c_seq ?_
                    refine c_region ?_
                    refine wl (wl_val hl rfl trivial (r_assign hl rfl) ?_)
                    clear hl a; intro a hl
                    refine w_nil ?_
                    have hl2 := hl.add (t := 3) (hl.add (t := 5) (hl.add (t := 7) (hl.add (t := 8) (hl.add (t := 9) (hl.add (t := 14) (hl.add (t := 17) (hl.add (t := 18) (hl.add (t := 39) (hl.add (t := 40) (hl.add (t := 41) (hl.nil) rfl) rfl) rfl) rfl) rfl) rfl) rfl) rfl) rfl) rfl) rfl; clear hl; have hl := hl2; clear hl2
                    refine then_normal ?_
                    refine wp_block ?_
                    obtain ⟨KS1, hKS1, hk⟩ := (hl.add (t := 3) (hl.add (t := 5) (hl.add (t := 7) (hl.add (t := 8) (hl.add (t := 9) (hl.add (t := 14) (hl.add (t := 17) (hl.add (t := 39) (hl.add (t := 40) (hl.add (t := 41) (hl.nil) rfl) rfl) rfl) rfl) rfl) rfl) rfl) rfl) rfl) rfl).name
                    obtain ⟨HS1, hHS1, hh2⟩ := hh.name (keeps_cons (b := k7) (o' := C (arrL 4096 (uIn s.1.f xx 0)) 62) (by repeat (first | exact find_head | apply find_tail)) (by first | exact uIn_zero _ _ | rfl) (keeps_nil))
                    refine c_loop (α := Nat) (fun i => sx - i) (fun i a w => (i ≤ sx) ∧ Sl 155 ([(18, .int .i64 i)] ++ KS1) a ∧ Has _ w0 ([(k7, C (arrL 4096 (uIn s.1.f xx i)) 62)] ++ HS1) w) 0 ⟨(by omega), hl.addE (t := 18) (hk) rfl (by first | rfl), hh2⟩ ?_
                    clear hk hh2 hl hh a w
                    intro i a w hI
                    obtain ⟨hi2, hl, hh⟩ := hI
                    subst hKS1; subst hHS1
                    simp only [List.cons_append, List.nil_append, List.append_nil] at hl hh
                    refine c_seq ?_
                    refine c_seq ?_
                    refine c_region ?_
                    refine wl (wl_val hl rfl trivial (r_move hl rfl) ?_)
                    clear hl a; intro a hl
                    refine wl (wl_val hl rfl trivial (r_move hl rfl) ?_)
                    clear hl a; intro a hl
                    refine wl (wl_val hl rfl trivial (r_lss hl rfl rfl) ?_)
                    clear hl a; intro a hl
                    refine w_nil ?_
                    have hl2 := hl.add (t := 3) (hl.add (t := 5) (hl.add (t := 7) (hl.add (t := 8) (hl.add (t := 9) (hl.add (t := 14) (hl.add (t := 17) (hl.add (t := 18) (hl.add (t := 39) (hl.add (t := 40) (hl.add (t := 41) (hl.add (t := 118) (hl.nil) rfl) rfl) rfl) rfl) rfl) rfl) rfl) rfl) rfl) rfl) rfl) rfl; clear hl; have hl := hl2; clear hl2
                    refine then_normal ?_
                    refine c_cond hl rfl ?_ ?_
                    · intro hc7
                      try simp only [decide_eq_true_eq, decide_eq_false_iff_not, Bool.not_eq_true', Bool.not_eq_false', Bool.not_eq_true, Bool.not_eq_false, Bool.and_eq_true, Bool.or_eq_true, Bool.and_eq_false_iff, Bool.or_eq_false_iff, Bool.not_not, ne_eq, Int.not_lt, Int.not_le, Decidable.not_not, beq_iff_eq, bne_iff_ne] at hc7
                      refine wp_skip ?_
                      refine then_normal ?_
                      refine c_seq ?_
                      refine wp_block ?_
                      refine c_region ?_
                      refine wl (wl_val hl rfl trivial (r_move hl rfl) ?_)
                      clear hl a; intro a hl
                      refine wl (w_call hl hh rfl trivial rfl cal27 rfl (refAddr_spec r0) (by repeat (first | exact keeps_nil | apply keeps_cons (by repeat (first | exact find_head | apply find_tail)) (by first  | rfl) | exact keeps_self | apply keeps_mv)) trivial ?_)
                      clear hl hh a w; intro vc Fc a w hR hl hh
                      obtain ⟨rfl, rfl⟩ := hR
                      try simp only [List.cons_append, List.nil_append] at hh
                      rw [hmod] at hl
                      first | refine wl (wl_val hl rfl trivial (r_conv hl rfl Try.underlying34 Try.underlying3 (by simp only [Fits]; omega)) ?_) | refine wl (wl_val hl rfl trivial (r_convW hl rfl Try.underlying34 Try.underlying3) ?_)
                      clear hl a; intro a hl
                      refine wl (wl_val hl rfl trivial (r_move hl rfl) ?_)
                      clear hl a; intro a hl
                      first | refine wl (wl_val hl rfl trivial (r_add hl rfl rfl (by simp only [Fits]; omega)) ?_) | refine wl (wl_val hl rfl trivial (r_addW hl rfl rfl) ?_)
                      clear hl a; intro a hl
                      refine wl (wl_val hl rfl trivial (r_indexA hl rfl rfl arr62 (by omega) (by omega) (by first | (simp only [Int.reduceToNat]; rfl) | exact toNat_add1 _ | exact toNat_add2 _ _ | exact toNat_emod _ _ | exact Int.toNat_natCast _ | rfl)) ?_)
                      clear hl a; intro a hl
                      refine wl (w_store hl hh trivial one4 rfl rfl (by repeat (first | exact find_head | apply find_tail)) (by rw [arrL_length]; omega) (by first | rfl | (apply Row.one; assumption)) (by exact arr_store (by omega)) ?_)
                      clear hh w; intro w hh
                      refine w_nil ?_
                      have hl2 := hl.add (t := 3) (hl.add (t := 5) (hl.add (t := 7) (hl.add (t := 8) (hl.add (t := 9) (hl.add (t := 14) (hl.add (t := 17) (hl.add (t := 18) (hl.add (t := 39) (hl.add (t := 40) (hl.add (t := 41) (hl.nil) rfl) rfl) rfl) rfl) rfl) rfl) rfl) rfl) rfl) rfl) rfl; clear hl; have hl := hl2; clear hl2
                      refine blk_normal ?_
                      refine then_normal ?_
                      refine c_region ?_
                      refine wl (wl_val hl rfl trivial (r_move hl rfl) ?_)
                      clear hl a; intro a hl
                      first | refine wl (wl_val hl rfl trivial (r_add hl rfl rfl (by simp only [Fits]; omega)) ?_) | refine wl (wl_val hl rfl trivial (r_addW hl rfl rfl) ?_)
                      clear hl a; intro a hl
                      refine wl (wl_val hl rfl trivial (r_assign hl rfl) ?_)
                      clear hl a; intro a hl
                      refine w_nil ?_
                      have hl2 := hl.add (t := 3) (hl.add (t := 5) (hl.add (t := 7) (hl.add (t := 8) (hl.add (t := 9) (hl.add (t := 14) (hl.add (t := 17) (hl.add (t := 18) (hl.add (t := 39) (hl.add (t := 40) (hl.add (t := 41) (hl.nil) rfl) rfl) rfl) rfl) rfl) rfl) rfl) rfl) rfl) rfl) rfl; clear hl; have hl := hl2; clear hl2
                      refine then_normal ?_
                      refine ⟨i + 1, (by omega), (by omega), hl.addE (t := 18) (hl.addE (t := 3) (hl.addE (t := 5) (hl.addE (t := 7) (hl.addE (t := 8) (hl.addE (t := 9) (hl.addE (t := 14) (hl.addE (t := 17) (hl.addE (t := 39) (hl.addE (t := 40) (hl.addE (t := 41) (hl.nil) rfl (by first | rfl | rfl)) rfl (by first | rfl | rfl)) rfl (by first | rfl | rfl)) rfl (by first | rfl | rfl)) rfl (by first | rfl | rfl)) rfl (by first | rfl | rfl)) rfl (by first | rfl | rfl)) rfl (by first | rfl | rfl)) rfl (by first | rfl | rfl)) rfl (by first | rfl | rfl)) rfl (by first | rfl | rfl), hh.keep (by repeat (first | exact keeps_nil | apply keeps_cons (by repeat (first | exact find_head | apply find_tail)) (by first  | exact uIn_succ _ _ _ | rfl) | exact keeps_self | apply keeps_mv))⟩
                    · intro hc7
                      try simp only [decide_eq_true_eq, decide_eq_false_iff_not, Bool.not_eq_true', Bool.not_eq_false', Bool.not_eq_true, Bool.not_eq_false, Bool.and_eq_true, Bool.or_eq_true, Bool.and_eq_false_iff, Bool.or_eq_false_iff, Bool.not_not, ne_eq, Int.not_lt, Int.not_le, Decidable.not_not, beq_iff_eq, bne_iff_ne] at hc7
                      refine wp_exit ?_
                      refine then_exit ?_
                      refine then_exit ?_
                      refine blk_exit ?_
                      refine blk_normal ?_
                      refine blk_normal ?_
                      refine then_normal ?_
                      refine c_region ?_
                      first | refine wl (wl_val hl rfl trivial (r_add hl rfl rfl (by simp only [Fits]; omega)) ?_) | refine wl (wl_val hl rfl trivial (r_addW hl rfl rfl) ?_)
                      clear hl a; intro a hl
                      refine wl (wl_val hl rfl trivial (r_move hl rfl) ?_)
                      clear hl a; intro a hl
                      refine w_nil ?_
                      have hl2 := hl.add (t := 3) (hl.add (t := 5) (hl.add (t := 7) (hl.add (t := 8) (hl.add (t := 9) (hl.add (t := 39) (hl.add (t := 40) (hl.add (t := 41) (hl.nil) rfl) rfl) rfl) rfl) rfl) rfl) rfl) rfl; clear hl; have hl := hl2; clear hl2
                      refine then_normal ?_
                      refine ⟨(⟨s.1.i + 1, (doF s.1.f ⟨kd2, x2, A2, B2, E2, D2⟩).f, fl2, keepF s.1.rs ⟨kd2, x2, A2, B2, E2, D2⟩ (doF s.1.f ⟨kd2, x2, A2, B2, E2, D2⟩).ans, rv2, E3⟩, l2), (by dsimp only; omega), ⟨hI.next hi hok hI2 hR2, hN⟩, hl.addE (t := 41) (hl.addE (t := 3) (hl.addE (t := 5) (hl.addE (t := 7) (hl.addE (t := 8) (hl.addE (t := 9) (hl.addE (t := 39) (hl.addE (t := 40) (hl.nil) rfl (by first | rfl | rfl)) rfl (by first | rfl | rfl)) rfl (by first | rfl | rfl)) rfl (by first | rfl | rfl)) rfl (by first | rfl | rfl)) rfl (by first | rfl | rfl)) rfl (by first | rfl | rfl)) rfl (by first | rfl | rfl), (by simp only [List.cons_append, List.nil_append, List.append_nil]; exact hh.keep (by repeat (first | exact keeps_nil | apply keeps_cons (by repeat (first | exact find_head | apply find_tail)) (by first  | (rw [hla]; done) | (rw [hlb]; done) | exact uIn_all hIx hOk (by omega) | exact uV_same hfr | rfl) | exact keeps_self | apply keeps_mv)))⟩
                · intro hc5
                  try simp only [decide_eq_true_eq, decide_eq_false_iff_not, Bool.not_eq_true', Bool.not_eq_false', Bool.not_eq_true, Bool.not_eq_false, Bool.and_eq_true, Bool.or_eq_true, Bool.and_eq_false_iff, Bool.or_eq_false_iff, Bool.not_not, ne_eq, Int.not_lt, Int.not_le, Decidable.not_not, beq_iff_eq, bne_iff_ne] at hc5
                  obtain ⟨ht4, hl0, hnf⟩ := (doF_lawful s.1.f ⟨kd2, x2, A2, B2, E2, D2⟩ (by simp only; omega) (by simp only; omega) (by simp only; omega)).resolve_left (by rw [hr]; simp only; omega)
                  rw [hr] at ht4
                  simp only at ht4 hl0 hnf
                  rw [← hsx] at hl0 hnf
                  obtain ⟨hf, ha⟩ := doF_refuse s.1.f ⟨kd2, x2, A2, B2, E2, D2⟩ (by rw [hr]; simp only; omega)
                  rw [hr] at ha
                  injection ha with _ e1 e2 e3
                  subst e1; subst e2; subst e3; subst ht4
                  have hlw := (hJ.at_ (s := sx) (by omega) (by omega) (by omega)).1
                  rw [hI.inv.empty (by omega) hl0] at hlw
                  simp only [List.length_nil] at hlw
                  obtain ⟨xf, hxf, hxf1, hxf2, _⟩ := hI.inv.fr
                  have hbt := hJ.bt
                  have hsm := (show SameBut s.1.f (doF s.1.f ⟨kd2, x2, A2, B2, E2, D2⟩).f from by rw [hf]; exact SameBut.refl _)
                  have hfr := hsm.fresh
                  obtain ⟨l2, hl2⟩ : ∃ l2, l2 = s.2 := ⟨_, rfl⟩
                  have hla : l2.1 = s.2.1 := by rw [hl2]
                  have hlb : l2.2 = s.2.2 := by rw [hl2]
                  have hN : J8 G (doF s.1.f ⟨kd2, x2, A2, B2, E2, D2⟩).f fl2 (s.1.i + 1) l2 := by rw [hl2]; exact hJ.same hsm hI.inv hI2
                  refine c_seq ?_
                  refine c_region ?_
                  refine wl (wl_val hl rfl trivial (r_eql hl rfl rfl) ?_)
                  clear hl a; intro a hl
                  refine wl (wl_val hl rfl trivial (r_assign hl rfl) ?_)
                  clear hl a; intro a hl
                  refine w_nil ?_
                  have hl2 := hl.add (t := 3) (hl.add (t := 5) (hl.add (t := 7) (hl.add (t := 8) (hl.add (t := 9) (hl.add (t := 14) (hl.add (t := 15) (hl.add (t := 16) (hl.add (t := 39) (hl.add (t := 40) (hl.add (t := 41) (hl.add (t := 127) (hl.nil) rfl) rfl) rfl) rfl) rfl) rfl) rfl) rfl) rfl) rfl) rfl) rfl; clear hl; have hl := hl2; clear hl2
                  refine then_normal ?_
                  refine c_cond hl rfl ?_ ?_
                  · intro hc8
                    try simp only [decide_eq_true_eq, decide_eq_false_iff_not, Bool.not_eq_true', Bool.not_eq_false', Bool.not_eq_true, Bool.not_eq_false, Bool.and_eq_true, Bool.or_eq_true, Bool.and_eq_false_iff, Bool.or_eq_false_iff, Bool.not_not, ne_eq, Int.not_lt, Int.not_le, Decidable.not_not, beq_iff_eq, bne_iff_ne] at hc8
                    refine c_seq ?_
                    refine c_seq ?_
                    refine c_region ?_
                    refine wl (wl_val hl rfl trivial (r_move hl rfl) ?_)
                    clear hl a; intro a hl
                    refine wl (wl_val hl rfl trivial (r_nilCheck hl rfl) ?_)
                    clear hl a; intro a hl
                    refine wl (wl_val hl rfl trivial (r_field hl rfl fld41_0) ?_)
                    clear hl a; intro a hl
                    refine wl (w_load hl hh rfl trivial one38 rfl (by repeat (first | exact find_head | apply find_tail)) (by first | rfl) ?_)
                    clear hl a; intro a hl
                    refine wl (wl_val hl rfl trivial (r_move hl rfl) ?_)
                    clear hl a; intro a hl
                    refine wl (w_call hl hh rfl trivial rfl cal26 rfl (equal_spec b kc (doF s.1.f ⟨kd2, x2, A2, B2, E2, D2⟩).f s.1.f (hI2.wf (by omega)) (hI.inv.wf (by omega))) (by repeat (first | exact keeps_nil | apply keeps_cons (by repeat (first | exact find_head | apply find_tail)) (by first  | rfl) | exact keeps_self | apply keeps_mv)) trivial ?_)
                    clear hl hh a w; intro vc Fc a w hR hl hh
                    obtain ⟨rfl, rfl⟩ := hR
                    try simp only [List.cons_append, List.nil_append] at hh
                    rw [show same (doF s.1.f ⟨kd2, x2, A2, B2, E2, D2⟩).f s.1.f = true from by rw [hf]; exact same_self _] at hl
                    refine wl (wl_val hl rfl trivial (r_not hl rfl) ?_)
                    clear hl a; intro a hl
                    refine wl (wl_val hl rfl trivial (r_move hl rfl) ?_)
                    clear hl a; intro a hl
                    refine sl_split (t := 136) hl rfl ?_ ?_
                    · intro hg4; clear hl; intro hl
                      try simp only [decide_eq_true_eq, decide_eq_false_iff_not, Bool.not_eq_true', Bool.not_eq_false', Bool.not_eq_true, Bool.not_eq_false, Bool.and_eq_true, Bool.or_eq_true, Bool.and_eq_false_iff, Bool.or_eq_false_iff, Bool.not_not, ne_eq, Int.not_lt, Int.not_le, Decidable.not_not, beq_iff_eq, bne_iff_ne] at hg4
                      exfalso; first | omega | (simp at *; done) | (simp at *; omega)
                    · intro hg4; clear hl; intro hl
                      try simp only [decide_eq_true_eq, decide_eq_false_iff_not, Bool.not_eq_true', Bool.not_eq_false', Bool.not_eq_true, Bool.not_eq_false, Bool.and_eq_true, Bool.or_eq_true, Bool.and_eq_false_iff, Bool.or_eq_false_iff, Bool.not_not, ne_eq, Int.not_lt, Int.not_le, Decidable.not_not, beq_iff_eq, bne_iff_ne] at hg4
                      first | refine wl (w_loadA hl hh rfl ⟨_, _, rfl, rfl, rfl⟩ agg44 rfl (by repeat (first | exact find_head | apply find_tail)) (by first | (simp only [List.getElem?_cons_zero, List.getElem?_cons_succ, Value.cells, List.take_zero, List.take_succ_cons, List.take_nil, List.drop_zero, List.drop_succ_cons, List.drop_nil, List.length_cons, List.length_nil, List.cons_append, List.nil_append, List.append_nil, Nat.zero_add, Nat.add_zero, Nat.reduceAdd, Nat.reduceBEq, Nat.reduceEqDiff, Nat.ble, BEq.rfl, Bool.and_true, Bool.and_self, cond_true, beq_self_eq_true]; rfl)) (by first | rfl | (simp; done)) ?_) | refine wl (w_loadRA hl hh rfl ⟨_, _, rfl, rfl, rfl⟩ agg44 rfl hm (by simp) hqv rfl ?_)
                      clear hl a; intro a hl
                      refine wl (wl_val hl rfl ⟨_, _, rfl, rfl, rfl⟩ (r_build hl rfl zero44 bld44 (by simp only [fillL, setL, List.getElem?_cons_zero, List.getElem?_cons_succ, Value.cells, List.take_zero, List.take_succ_cons, List.take_nil, List.drop_zero, List.drop_succ_cons, List.drop_nil, List.length_cons, List.length_nil, List.cons_append, List.nil_append, List.append_nil, Nat.zero_add, Nat.add_zero, Nat.reduceAdd, Nat.reduceBEq, Nat.reduceEqDiff, Nat.ble, BEq.rfl, Bool.and_true, Bool.and_self, cond_true, beq_self_eq_true]; rfl)) ?_)
                      clear hl a; intro a hl
                      refine wl (wl_val hl rfl ⟨_, _, rfl, rfl, rfl⟩ (r_neqA hl rfl rfl eqf44 shp44 (by simp only [unlitL, unlit]; rfl) (by simp only [unlitL, unlit]; rfl) (by first | exact ⟨trivial⟩ | (refine ⟨?_⟩; simp [LitsOk, litOk, Fits]; done) | (refine ⟨?_⟩; simp [LitsOk, litOk, Fits]; omega)) (by first | exact ⟨trivial⟩ | (refine ⟨?_⟩; simp [LitsOk, litOk, Fits]; done) | (refine ⟨?_⟩; simp [LitsOk, litOk, Fits]; omega))) ?_)
                      clear hl a; intro a hl
                      refine wl (wl_val hl rfl trivial (r_pickF hl rfl rfl) ?_)
                      clear hl a; intro a hl
                      refine w_nil ?_
                      have hl2 := hl.add (t := 3) (hl.add (t := 5) (hl.add (t := 7) (hl.add (t := 8) (hl.add (t := 9) (hl.add (t := 14) (hl.add (t := 39) (hl.add (t := 40) (hl.add (t := 41) (hl.add (t := 140) (hl.nil) rfl) rfl) rfl) rfl) rfl) rfl) rfl) rfl) rfl) rfl; clear hl; have hl := hl2; clear hl2
                      refine then_normal ?_
                      refine c_cond hl rfl ?_ ?_
                      · intro hc9
                        try simp only [decide_eq_true_eq, decide_eq_false_iff_not, Bool.not_eq_true', Bool.not_eq_false', Bool.not_eq_true, Bool.not_eq_false, Bool.and_eq_true, Bool.or_eq_true, Bool.and_eq_false_iff, Bool.or_eq_false_iff, Bool.not_not, ne_eq, Int.not_lt, Int.not_le, Decidable.not_not, beq_iff_eq, bne_iff_ne] at hc9
                        exfalso; simp [eqLits, litBeq] at hc9
                      · intro hc9
                        try simp only [decide_eq_true_eq, decide_eq_false_iff_not, Bool.not_eq_true', Bool.not_eq_false', Bool.not_eq_true, Bool.not_eq_false, Bool.and_eq_true, Bool.or_eq_true, Bool.and_eq_false_iff, Bool.or_eq_false_iff, Bool.not_not, ne_eq, Int.not_lt, Int.not_le, Decidable.not_not, beq_iff_eq, bne_iff_ne] at hc9
                        refine wp_skip ?_
                        refine then_normal ?_
                        refine c_seq ?_
                        refine c_region ?_
                        refine wl (wl_val hl rfl trivial (r_move hl rfl) ?_)
                        clear hl a; intro a hl
                        refine wl (wl_val hl rfl trivial (r_move hl rfl) ?_)
                        clear hl a; intro a hl
                        refine wl (w_lookup (keyInt Try.underlying3) Try.underlying69 zero3 hl hh rfl trivial rfl rfl (by repeat (first | exact find_head | apply find_tail)) ?_)
                        clear hl a; intro a hl
                        rw [hlw] at hl
                        refine wl (wl_val hl rfl trivial (r_gtr hl rfl rfl) ?_)
                        clear hl a; intro a hl
                        refine wl (wl_val hl rfl trivial (r_move hl rfl) ?_)
                        clear hl a; intro a hl
                        refine sl_split (t := 145) hl rfl ?_ ?_
                        · intro hg5; clear hl; intro hl
                          try simp only [decide_eq_true_eq, decide_eq_false_iff_not, Bool.not_eq_true', Bool.not_eq_false', Bool.not_eq_true, Bool.not_eq_false, Bool.and_eq_true, Bool.or_eq_true, Bool.and_eq_false_iff, Bool.or_eq_false_iff, Bool.not_not, ne_eq, Int.not_lt, Int.not_le, Decidable.not_not, beq_iff_eq, bne_iff_ne] at hg5
                          exfalso; first | omega | (simp at *; done) | (simp at *; omega)
                        · intro hg5; clear hl; intro hl
                          try simp only [decide_eq_true_eq, decide_eq_false_iff_not, Bool.not_eq_true', Bool.not_eq_false', Bool.not_eq_true, Bool.not_eq_false, Bool.and_eq_true, Bool.or_eq_true, Bool.and_eq_false_iff, Bool.or_eq_false_iff, Bool.not_not, ne_eq, Int.not_lt, Int.not_le, Decidable.not_not, beq_iff_eq, bne_iff_ne] at hg5
                          refine wl (wl_val hl rfl ⟨_, _, rfl, rfl, rfl⟩ (r_move hl rfl) ?_)
                          clear hl a; intro a hl
                          refine wl (wl_val hl rfl ⟨_, _, rfl, rfl, rfl⟩ (r_lss hl rfl rfl) ?_)
                          clear hl a; intro a hl
                          refine wl (wl_val hl rfl ⟨_, _, rfl, rfl, rfl⟩ (r_move hl rfl) ?_)
                          clear hl a; intro a hl
                          refine sl_split (t := 148) hl rfl ?_ ?_
                          · intro hg6; clear hl; intro hl
                            try simp only [decide_eq_true_eq, decide_eq_false_iff_not, Bool.not_eq_true', Bool.not_eq_false', Bool.not_eq_true, Bool.not_eq_false, Bool.and_eq_true, Bool.or_eq_true, Bool.and_eq_false_iff, Bool.or_eq_false_iff, Bool.not_not, ne_eq, Int.not_lt, Int.not_le, Decidable.not_not, beq_iff_eq, bne_iff_ne] at hg6
                            refine wl (w_call hl hh rfl ⟨_, _, rfl, rfl, rfl⟩ rfl cal32 rfl (longest_spec k7 s.1.f xf hxf (by omega)) (by repeat (first | exact keeps_nil | apply keeps_cons (by repeat (first | exact find_head | apply find_tail)) (by first  | rfl) | exact keeps_self | apply keeps_mv)) trivial ?_)
                            clear hl hh a w; intro vc Fc a w hR hl hh
                            obtain ⟨rfl, rfl⟩ := hR
                            try simp only [List.cons_append, List.nil_append] at hh
                            refine wl (wl_val hl rfl ⟨_, _, rfl, rfl, rfl⟩ (r_move hl rfl) ?_)
                            clear hl a; intro a hl
                            refine wl (wl_val hl rfl ⟨_, _, rfl, rfl, rfl⟩ (r_geq hl rfl rfl) ?_)
                            clear hl a; intro a hl
                            refine wl (wl_val hl rfl ⟨_, _, rfl, rfl, rfl⟩ (r_pickT hl rfl rfl) ?_)
                            clear hl a; intro a hl
                            refine wl (wl_val hl rfl trivial (r_pickF hl rfl rfl) ?_)
                            clear hl a; intro a hl
                            refine w_nil ?_
                            have hl2 := hl.add (t := 3) (hl.add (t := 5) (hl.add (t := 7) (hl.add (t := 8) (hl.add (t := 9) (hl.add (t := 39) (hl.add (t := 40) (hl.add (t := 41) (hl.add (t := 153) (hl.nil) rfl) rfl) rfl) rfl) rfl) rfl) rfl) rfl) rfl; clear hl; have hl := hl2; clear hl2
                            refine then_normal ?_
                            refine c_cond hl rfl ?_ ?_
                            · intro hc10
                              try simp only [decide_eq_true_eq, decide_eq_false_iff_not, Bool.not_eq_true', Bool.not_eq_false', Bool.not_eq_true, Bool.not_eq_false, Bool.and_eq_true, Bool.or_eq_true, Bool.and_eq_false_iff, Bool.or_eq_false_iff, Bool.not_not, ne_eq, Int.not_lt, Int.not_le, Decidable.not_not, beq_iff_eq, bne_iff_ne] at hc10
                              exfalso; first | omega | (simp at *; done) | (simp at *; omega)
                            · intro hc10
                              try simp only [decide_eq_true_eq, decide_eq_false_iff_not, Bool.not_eq_true', Bool.not_eq_false', Bool.not_eq_true, Bool.not_eq_false, Bool.and_eq_true, Bool.or_eq_true, Bool.and_eq_false_iff, Bool.or_eq_false_iff, Bool.not_not, ne_eq, Int.not_lt, Int.not_le, Decidable.not_not, beq_iff_eq, bne_iff_ne] at hc10
                              refine wp_skip ?_
                              refine blk_normal ?_
                              refine blk_normal ?_
                              refine then_normal ?_
                              refine c_region ?_
                              first | refine wl (wl_val hl rfl trivial (r_add hl rfl rfl (by simp only [Fits]; omega)) ?_) | refine wl (wl_val hl rfl trivial (r_addW hl rfl rfl) ?_)
                              clear hl a; intro a hl
                              refine wl (wl_val hl rfl trivial (r_move hl rfl) ?_)
                              clear hl a; intro a hl
                              refine w_nil ?_
                              have hl2 := hl.add (t := 3) (hl.add (t := 5) (hl.add (t := 7) (hl.add (t := 8) (hl.add (t := 9) (hl.add (t := 39) (hl.add (t := 40) (hl.add (t := 41) (hl.nil) rfl) rfl) rfl) rfl) rfl) rfl) rfl) rfl; clear hl; have hl := hl2; clear hl2
                              refine then_normal ?_
                              refine ⟨(⟨s.1.i + 1, (doF s.1.f ⟨kd2, x2, A2, B2, E2, D2⟩).f, fl2, keepF s.1.rs ⟨kd2, x2, A2, B2, E2, D2⟩ (doF s.1.f ⟨kd2, x2, A2, B2, E2, D2⟩).ans, rv2, E3⟩, l2), (by dsimp only; omega), ⟨hI.next hi hok hI2 hR2, hN⟩, hl.addE (t := 41) (hl.addE (t := 3) (hl.addE (t := 5) (hl.addE (t := 7) (hl.addE (t := 8) (hl.addE (t := 9) (hl.addE (t := 39) (hl.addE (t := 40) (hl.nil) rfl (by first | rfl | rfl)) rfl (by first | rfl | rfl)) rfl (by first | rfl | rfl)) rfl (by first | rfl | rfl)) rfl (by first | rfl | rfl)) rfl (by first | rfl | rfl)) rfl (by first | rfl | rfl)) rfl (by first | rfl | rfl), (by simp only [List.cons_append, List.nil_append, List.append_nil]; exact hh.keep (by repeat (first | exact keeps_nil | apply keeps_cons (by repeat (first | exact find_head | apply find_tail)) (by first  | (rw [hla]; done) | (rw [hlb]; done) | exact uIn_all hIx hOk (by omega) | exact uV_same hfr | rfl) | exact keeps_self | apply keeps_mv)))⟩
                          · intro hg6; clear hl; intro hl
                            try simp only [decide_eq_true_eq, decide_eq_false_iff_not, Bool.not_eq_true', Bool.not_eq_false', Bool.not_eq_true, Bool.not_eq_false, Bool.and_eq_true, Bool.or_eq_true, Bool.and_eq_false_iff, Bool.or_eq_false_iff, Bool.not_not, ne_eq, Int.not_lt, Int.not_le, Decidable.not_not, beq_iff_eq, bne_iff_ne] at hg6
                            refine wl (wl_skip hl rfl ⟨_, _, rfl, rfl, rfl⟩ ?_)
                            clear hl a; intro a hl
                            refine wl (wl_skip hl rfl ⟨_, _, rfl, rfl, rfl⟩ ?_)
                            clear hl a; intro a hl
                            refine wl (wl_skip hl rfl ⟨_, _, rfl, rfl, rfl⟩ ?_)
                            clear hl a; intro a hl
                            refine wl (wl_val hl rfl ⟨_, _, rfl, rfl, rfl⟩ (r_pickF hl rfl rfl) ?_)
                            clear hl a; intro a hl
                            refine wl (wl_val hl rfl trivial (r_pickF hl rfl rfl) ?_)
                            clear hl a; intro a hl
                            refine w_nil ?_
                            have hl2 := hl.add (t := 3) (hl.add (t := 5) (hl.add (t := 7) (hl.add (t := 8) (hl.add (t := 9) (hl.add (t := 39) (hl.add (t := 40) (hl.add (t := 41) (hl.add (t := 153) (hl.nil) rfl) rfl) rfl) rfl) rfl) rfl) rfl) rfl) rfl; clear hl; have hl := hl2; clear hl2
                            refine then_normal ?_
                            refine c_condF hl rfl ?_
                            refine wp_skip ?_
                            refine blk_normal ?_
                            refine blk_normal ?_
                            refine then_normal ?_
                            refine c_region ?_
                            first | refine wl (wl_val hl rfl trivial (r_add hl rfl rfl (by simp only [Fits]; omega)) ?_) | refine wl (wl_val hl rfl trivial (r_addW hl rfl rfl) ?_)
                            clear hl a; intro a hl
                            refine wl (wl_val hl rfl trivial (r_move hl rfl) ?_)
                            clear hl a; intro a hl
                            refine w_nil ?_
                            have hl2 := hl.add (t := 3) (hl.add (t := 5) (hl.add (t := 7) (hl.add (t := 8) (hl.add (t := 9) (hl.add (t := 39) (hl.add (t := 40) (hl.add (t := 41) (hl.nil) rfl) rfl) rfl) rfl) rfl) rfl) rfl) rfl; clear hl; have hl := hl2; clear hl2
                            refine then_normal ?_
                            refine ⟨(⟨s.1.i + 1, (doF s.1.f ⟨kd2, x2, A2, B2, E2, D2⟩).f, fl2, keepF s.1.rs ⟨kd2, x2, A2, B2, E2, D2⟩ (doF s.1.f ⟨kd2, x2, A2, B2, E2, D2⟩).ans, rv2, E3⟩, l2), (by dsimp only; omega), ⟨hI.next hi hok hI2 hR2, hN⟩, hl.addE (t := 41) (hl.addE (t := 3) (hl.addE (t := 5) (hl.addE (t := 7) (hl.addE (t := 8) (hl.addE (t := 9) (hl.addE (t := 39) (hl.addE (t := 40) (hl.nil) rfl (by first | rfl | rfl)) rfl (by first | rfl | rfl)) rfl (by first | rfl | rfl)) rfl (by first | rfl | rfl)) rfl (by first | rfl | rfl)) rfl (by first | rfl | rfl)) rfl (by first | rfl | rfl)) rfl (by first | rfl | rfl), (by simp only [List.cons_append, List.nil_append, List.append_nil]; exact hh.keep (by repeat (first | exact keeps_nil | apply keeps_cons (by repeat (first | exact find_head | apply find_tail)) (by first  | (rw [hla]; done) | (rw [hlb]; done) | exact uIn_all hIx hOk (by omega) | exact uV_same hfr | rfl) | exact keeps_self | apply keeps_mv)))⟩
                  · intro hc8
                    try simp only [decide_eq_true_eq, decide_eq_false_iff_not, Bool.not_eq_true', Bool.not_eq_false', Bool.not_eq_true, Bool.not_eq_false, Bool.and_eq_true, Bool.or_eq_true, Bool.and_eq_false_iff, Bool.or_eq_false_iff, Bool.not_not, ne_eq, Int.not_lt, Int.not_le, Decidable.not_not, beq_iff_eq, bne_iff_ne] at hc8
                    exfalso; first | omega | (simp at *; done) | (simp at *; omega)
      ·
        try clear hM
        refine id (w_alloc hl hh rfl trivial zero36 rfl ?_)
        clear hl hh a w; intro k12 a w hl hh
        have hM : Mem [(gb, C [.pointer (some ⟨b, 0, none⟩), s.1.rv] 41), (k11, C [.int .u8 kd, .int .u32 x, .int .u64 A, .int .u64 B, .int .u64 E, .int .u64 D] 36)] w := (by repeat (first | exact Mem.nil | refine Mem.cons hh.mem (by repeat (first | exact find_head | apply find_tail)) ?_ | refine Mem.consR hh (by assumption) (by simp) ?_))
        refine d_step (fun _ => hM) ?_
        refine d_one (i := 5) (by kernel_rfl) rfl ?_
        try clear hM
        refine id (w_call hl hh rfl trivial rfl cal16 rfl (plain_spec s.1.rs s.1.rv s.1.Er hI.row (by have := hI.len; omega) ⟨kd, x, A, B, E, D⟩) (by repeat (first | exact keeps_nil | apply keeps_cons (by repeat (first | exact find_head | apply find_tail)) (by first  | rfl) | exact keeps_self | apply keeps_mv)) trivial ?_)
        clear hl hh a w; intro vc Fc a w hR hl hh
        obtain ⟨rfl, rfl⟩ := hR
        try simp only [List.cons_append, List.nil_append] at hh
        replace hh := hh.comm; simp only [List.cons_append, List.nil_append, List.append_nil] at hh; have hok : (plainF s.1.rs ⟨kd, x, A, B, E, D⟩).ok := plainF_ok hqo hI.ok; generalize hp2 : plainF s.1.rs ⟨kd, x, A, B, E, D⟩ = o2 at hl hok; obtain ⟨kd2, x2, A2, B2, E2, D2⟩ := o2; simp only [MOp.vals] at hl; obtain ⟨fl2, hI2⟩ := hI.inv.do hok
        have hM : Mem [(gb, C [.pointer (some ⟨b, 0, none⟩), s.1.rv] 41), (k11, C [.int .u8 kd, .int .u32 x, .int .u64 A, .int .u64 B, .int .u64 E, .int .u64 D] 36)] w := (by repeat (first | exact Mem.nil | refine Mem.cons hh.mem (by repeat (first | exact find_head | apply find_tail)) ?_ | refine Mem.consR hh (by assumption) (by simp) ?_))
        refine d_step (fun _ => hM) ?_
        refine d_one (i := 7) (by kernel_rfl) rfl ?_
        try clear hM
        refine id (w_storeA hl hh trivial agg36 rfl rfl (by repeat (first | exact find_head | apply find_tail)) (by first | rfl | (simp; done)) (by first | (simp; done) | (simp; omega)) (by first | rfl | (simp; done)) (by first | (simp only [setL, List.getElem?_cons_zero, List.getElem?_cons_succ, Value.cells, List.take_zero, List.take_succ_cons, List.take_nil, List.drop_zero, List.drop_succ_cons, List.drop_nil, List.length_cons, List.length_nil, List.cons_append, List.nil_append, List.append_nil, Nat.zero_add, Nat.add_zero, Nat.reduceAdd, Nat.reduceBEq, Nat.reduceEqDiff, Nat.ble, BEq.rfl, Bool.and_true, Bool.and_self, cond_true, beq_self_eq_true]; rfl)) ?_)
        clear hh w; intro w hh
        refine d_step (fun h => absurd h (by decide)) ?_
        refine d_done (by kernel_rfl) ?_
        try clear hM
        have hl2 := hl.add (t := 3) (hl.add (t := 5) (hl.add (t := 7) (hl.add (t := 8) (hl.add (t := 9) (hl.add (t := 12) (hl.add (t := 39) (hl.add (t := 40) (hl.add (t := 41) (hl.nil) rfl) rfl) rfl) rfl) rfl) rfl) rfl) rfl) rfl; clear hl; have hl := hl2; clear hl2
        refine then_normal ?_
        refine c_seq ?_
        refine c_seq ?_
        refine c_region ?_
        refine wl (wl_val hl rfl trivial (r_field hl rfl fld36_0) ?_)
        clear hl a; intro a hl
        refine wl (w_load hl hh rfl trivial one32 rfl (by repeat (first | exact find_head | apply find_tail)) (by first | rfl) ?_)
        clear hl a; intro a hl
        refine wl (wl_val hl rfl trivial (r_eql hl rfl rfl) ?_)
        clear hl a; intro a hl
        refine w_nil ?_
        have hl2 := hl.add (t := 3) (hl.add (t := 5) (hl.add (t := 7) (hl.add (t := 8) (hl.add (t := 9) (hl.add (t := 12) (hl.add (t := 39) (hl.add (t := 40) (hl.add (t := 41) (hl.add (t := 53) (hl.nil) rfl) rfl) rfl) rfl) rfl) rfl) rfl) rfl) rfl) rfl; clear hl; have hl := hl2; clear hl2
        refine then_normal ?_
        refine c_cond hl rfl ?_ ?_
        · intro hc2
          try simp only [decide_eq_true_eq, decide_eq_false_iff_not, Bool.not_eq_true', Bool.not_eq_false', Bool.not_eq_true, Bool.not_eq_false, Bool.and_eq_true, Bool.or_eq_true, Bool.and_eq_false_iff, Bool.or_eq_false_iff, Bool.not_not, ne_eq, Int.not_lt, Int.not_le, Decidable.not_not, beq_iff_eq, bne_iff_ne] at hc2
          have h6 := doF_free s.1.f ⟨kd2, x2, A2, B2, E2, D2⟩ (by simp only; omega)
          rw [freeF_st0] at h6
          simp only at h6
          refine c_seq ?_
          refine c_region ?_
          refine wl (wl_val hl rfl trivial (r_field hl rfl fld36_2) ?_)
          clear hl a; intro a hl
          refine wl (w_load hl hh rfl trivial one27 rfl (by repeat (first | exact find_head | apply find_tail)) (by first | rfl) ?_)
          clear hl a; intro a hl
          refine wl (wl_val hl rfl trivial (r_assign hl rfl) ?_)
          clear hl a; intro a hl
          refine w_nil ?_
          have hl2 := hl.add (t := 3) (hl.add (t := 5) (hl.add (t := 7) (hl.add (t := 8) (hl.add (t := 9) (hl.add (t := 12) (hl.add (t := 13) (hl.add (t := 39) (hl.add (t := 40) (hl.add (t := 41) (hl.nil) rfl) rfl) rfl) rfl) rfl) rfl) rfl) rfl) rfl) rfl; clear hl; have hl := hl2; clear hl2
          refine then_normal ?_
          refine c_seq ?_
          refine c_seq ?_
          refine c_region ?_
          refine wl (wl_val hl rfl trivial (r_move hl rfl) ?_)
          clear hl a; intro a hl
          first | refine wl (w_loadA hl hh rfl trivial agg36 rfl (by repeat (first | exact find_head | apply find_tail)) (by first | (simp only [List.getElem?_cons_zero, List.getElem?_cons_succ, Value.cells, List.take_zero, List.take_succ_cons, List.take_nil, List.drop_zero, List.drop_succ_cons, List.drop_nil, List.length_cons, List.length_nil, List.cons_append, List.nil_append, List.append_nil, Nat.zero_add, Nat.add_zero, Nat.reduceAdd, Nat.reduceBEq, Nat.reduceEqDiff, Nat.ble, BEq.rfl, Bool.and_true, Bool.and_self, cond_true, beq_self_eq_true]; rfl)) (by first | rfl | (simp; done)) ?_) | refine wl (w_loadRA hl hh rfl trivial agg36 rfl hm (by simp) hqv rfl ?_)
          clear hl a; intro a hl
          refine wl (w_call hl hh rfl trivial rfl cal17 rfl (gdo_spec gb b hI.inv (by omega) s.1.rs s.1.rv s.1.Er hI.row (by have := hI.len; omega) ⟨kd2, x2, A2, B2, E2, D2⟩ hok) (by repeat (first | exact keeps_nil | apply keeps_cons (by repeat (first | exact find_head | apply find_tail)) (by first  | rfl) | exact keeps_self | apply keeps_mv)) trivial ?_)
          clear hl hh a w; intro vc Fc a w hR hl hh
          obtain ⟨rfl, rv2, E3, hR2, rfl⟩ := hR
          try simp only [List.cons_append, List.nil_append] at hh
          replace hh := has_comm2 hh; simp only [List.cons_append, List.nil_append, List.append_nil] at hh; have hts := doF_st s.1.f ⟨kd2, x2, A2, B2, E2, D2⟩; generalize hr : (doF s.1.f ⟨kd2, x2, A2, B2, E2, D2⟩).ans = r at hl hts; obtain ⟨t, pp, u, u1⟩ := r; simp only [Ans.l] at hl; simp only at hts
          refine wl (wl_val hl rfl trivial (r_fieldV hl rfl fldT44_0 one42 rfl) ?_)
          clear hl a; intro a hl
          refine wl (wl_val hl rfl trivial (r_eql hl rfl rfl) ?_)
          clear hl a; intro a hl
          refine wl (wl_val hl rfl trivial (r_move hl rfl) ?_)
          clear hl a; intro a hl
          refine sl_split (t := 61) hl rfl ?_ ?_
          · intro hg7; clear hl; intro hl
            try simp only [decide_eq_true_eq, decide_eq_false_iff_not, Bool.not_eq_true', Bool.not_eq_false', Bool.not_eq_true, Bool.not_eq_false, Bool.and_eq_true, Bool.or_eq_true, Bool.and_eq_false_iff, Bool.or_eq_false_iff, Bool.not_not, ne_eq, Int.not_lt, Int.not_le, Decidable.not_not, beq_iff_eq, bne_iff_ne] at hg7
            refine wl (wl_val hl rfl ⟨_, _, rfl, rfl, rfl⟩ (r_move hl rfl) ?_)
            clear hl a; intro a hl
            refine wl (w_call hl hh rfl ⟨_, _, rfl, rfl, rfl⟩ rfl cal31 rfl (refGen_spec A2) (by repeat (first | exact keeps_nil | apply keeps_cons (by repeat (first | exact find_head | apply find_tail)) (by first  | rfl) | exact keeps_self | apply keeps_mv)) trivial ?_)
            clear hl hh a w; intro vc Fc a w hR hl hh
            obtain ⟨rfl, rfl⟩ := hR
            try simp only [List.cons_append, List.nil_append] at hh
            refine wl (wl_val hl rfl ⟨_, _, rfl, rfl, rfl⟩ (r_lss hl rfl rfl) ?_)
            clear hl a; intro a hl
            refine wl (wl_val hl rfl trivial (r_pickT hl rfl rfl) ?_)
            clear hl a; intro a hl
            refine w_nil ?_
            have hl2 := hl.add (t := 3) (hl.add (t := 5) (hl.add (t := 7) (hl.add (t := 8) (hl.add (t := 9) (hl.add (t := 13) (hl.add (t := 39) (hl.add (t := 40) (hl.add (t := 41) (hl.add (t := 65) (hl.nil) rfl) rfl) rfl) rfl) rfl) rfl) rfl) rfl) rfl) rfl; clear hl; have hl := hl2; clear hl2
            refine then_normal ?_
            refine c_cond hl rfl ?_ ?_
            · intro hc3
              try simp only [decide_eq_true_eq, decide_eq_false_iff_not, Bool.not_eq_true', Bool.not_eq_false', Bool.not_eq_true, Bool.not_eq_false, Bool.and_eq_true, Bool.or_eq_true, Bool.and_eq_false_iff, Bool.or_eq_false_iff, Bool.not_not, ne_eq, Int.not_lt, Int.not_le, Decidable.not_not, beq_iff_eq, bne_iff_ne] at hc3
              have hj0 : judgeF s.1.f A2 = 0 := by
                have h7 := h6.2
                rw [hr] at h7
                injection h7 with e0
                omega
              obtain ⟨_, sy, flx, hIx, hFk⟩ := hI.inv.freeOk A2 hj0
              rw [← h6.1] at hIx hFk
              have hfr := hFk.frs
              have hlk := hJ.sizes.at_ A2 hj0
              rw [hFk.size] at hlk
              obtain ⟨hlw, hln⟩ := hJ.at_ hFk.s1 hFk.s2 hFk.s3
              obtain ⟨l2, hl2⟩ : ∃ l2 : List (Int × Value) × List (Int × Value), l2 = (s.2.1, mput s.2.2 (sy : Int) (.int .i64 (((s.1.fl (sy / 2 - 1)).length : Int) + 1))) := ⟨_, rfl⟩
              have hla : l2.1 = ((s.2.1, mput s.2.2 (sy : Int) (.int .i64 (((s.1.fl (sy / 2 - 1)).length : Int) + 1))) : List (Int × Value) × List (Int × Value)).1 := by rw [hl2]
              have hlb : l2.2 = ((s.2.1, mput s.2.2 (sy : Int) (.int .i64 (((s.1.fl (sy / 2 - 1)).length : Int) + 1))) : List (Int × Value) × List (Int × Value)).2 := by rw [hl2]
              simp only at hla hlb
              have hN : J8 G (doF s.1.f ⟨kd2, x2, A2, B2, E2, D2⟩).f fl2 (s.1.i + 1) l2 := by rw [hl2]; exact hJ.push hj0 hFk hIx hI2 (by omega)
              refine c_region ?_
              refine wl (wl_val hl rfl trivial (r_move hl rfl) ?_)
              clear hl a; intro a hl
              refine wl (wl_val hl rfl trivial (r_move hl rfl) ?_)
              clear hl a; intro a hl
              refine wl (wl_val hl rfl trivial (r_move hl rfl) ?_)
              clear hl a; intro a hl
              refine wl (w_lookup (keyInt Try.underlying63) Try.underlying52 zero3 hl hh rfl trivial rfl rfl (by repeat (first | exact find_head | apply find_tail)) ?_)
              clear hl a; intro a hl
              first | rw [hlk] at hl | rw [hlw] at hl
              refine wl (w_lookup (keyInt Try.underlying3) Try.underlying69 zero3 hl hh rfl trivial rfl rfl (by repeat (first | exact find_head | apply find_tail)) ?_)
              clear hl a; intro a hl
              first | rw [hlk] at hl | rw [hlw] at hl
              first | refine wl (wl_val hl rfl trivial (r_add hl rfl rfl (by simp only [Fits]; omega)) ?_) | refine wl (wl_val hl rfl trivial (r_addW hl rfl rfl) ?_)
              clear hl a; intro a hl
              refine wl (w_mapUpdate (keyInt Try.underlying3) Try.underlying69 hl hh trivial rfl rfl rfl (by repeat (first | exact find_head | apply find_tail)) ?_)
              clear hh w; intro w hh
              refine w_nil ?_
              have hl2 := hl.add (t := 3) (hl.add (t := 5) (hl.add (t := 7) (hl.add (t := 8) (hl.add (t := 9) (hl.add (t := 39) (hl.add (t := 40) (hl.add (t := 41) (hl.nil) rfl) rfl) rfl) rfl) rfl) rfl) rfl) rfl; clear hl; have hl := hl2; clear hl2
              refine then_normal ?_
              refine wp_exit ?_
              refine then_exit ?_
              refine blk_exit ?_
              refine then_normal ?_
              refine c_region ?_
              first | refine wl (wl_val hl rfl trivial (r_add hl rfl rfl (by simp only [Fits]; omega)) ?_) | refine wl (wl_val hl rfl trivial (r_addW hl rfl rfl) ?_)
              clear hl a; intro a hl
              refine wl (wl_val hl rfl trivial (r_move hl rfl) ?_)
              clear hl a; intro a hl
              refine w_nil ?_
              have hl2 := hl.add (t := 3) (hl.add (t := 5) (hl.add (t := 7) (hl.add (t := 8) (hl.add (t := 9) (hl.add (t := 39) (hl.add (t := 40) (hl.add (t := 41) (hl.nil) rfl) rfl) rfl) rfl) rfl) rfl) rfl) rfl; clear hl; have hl := hl2; clear hl2
              refine then_normal ?_
              refine ⟨(⟨s.1.i + 1, (doF s.1.f ⟨kd2, x2, A2, B2, E2, D2⟩).f, fl2, keepF s.1.rs ⟨kd2, x2, A2, B2, E2, D2⟩ (doF s.1.f ⟨kd2, x2, A2, B2, E2, D2⟩).ans, rv2, E3⟩, l2), (by dsimp only; omega), ⟨hI.next hi hok hI2 hR2, hN⟩, hl.addE (t := 41) (hl.addE (t := 3) (hl.addE (t := 5) (hl.addE (t := 7) (hl.addE (t := 8) (hl.addE (t := 9) (hl.addE (t := 39) (hl.addE (t := 40) (hl.nil) rfl (by first | rfl | rfl)) rfl (by first | rfl | rfl)) rfl (by first | rfl | rfl)) rfl (by first | rfl | rfl)) rfl (by first | rfl | rfl)) rfl (by first | rfl | rfl)) rfl (by first | rfl | rfl)) rfl (by first | rfl | rfl), (by simp only [List.cons_append, List.nil_append, List.append_nil]; exact hh.keep (by repeat (first | exact keeps_nil | apply keeps_cons (by repeat (first | exact find_head | apply find_tail)) (by first  | (rw [hla]; done) | (rw [hlb]; done) | exact uIn_all hIx hOk (by omega) | exact uV_same hfr | rfl) | exact keeps_self | apply keeps_mv)))⟩
            · intro hc3
              try simp only [decide_eq_true_eq, decide_eq_false_iff_not, Bool.not_eq_true', Bool.not_eq_false', Bool.not_eq_true, Bool.not_eq_false, Bool.and_eq_true, Bool.or_eq_true, Bool.and_eq_false_iff, Bool.or_eq_false_iff, Bool.not_not, ne_eq, Int.not_lt, Int.not_le, Decidable.not_not, beq_iff_eq, bne_iff_ne] at hc3
              have hb3 : fresh (doF s.1.f ⟨kd2, x2, A2, B2, E2, D2⟩).f = fresh s.1.f ∧ J8 G (doF s.1.f ⟨kd2, x2, A2, B2, E2, D2⟩).f fl2 (s.1.i + 1) s.2 := by
                by_cases ht0 : t = 0
                · have hj0 : judgeF s.1.f A2 = 0 := by
                    have h7 := h6.2
                    rw [hr] at h7
                    injection h7 with e0
                    omega
                  obtain ⟨_, sy, flx, hIx, hFk⟩ := hI.inv.freeOk A2 hj0
                  rw [← h6.1] at hIx hFk
                  exact ⟨hFk.frs, hJ.spend hj0 hFk hIx hI2 (by omega) hI.inv⟩
                · have hf := (doF_refuse s.1.f ⟨kd2, x2, A2, B2, E2, D2⟩ (by rw [hr]; exact ht0)).1
                  have hsm : SameBut s.1.f (doF s.1.f ⟨kd2, x2, A2, B2, E2, D2⟩).f := by rw [hf]; exact SameBut.refl _
                  exact ⟨hsm.fresh, hJ.same hsm hI.inv hI2⟩
              obtain ⟨hfr, hb4⟩ := hb3
              obtain ⟨l2, hl2⟩ : ∃ l2, l2 = s.2 := ⟨_, rfl⟩
              have hla : l2.1 = s.2.1 := by rw [hl2]
              have hlb : l2.2 = s.2.2 := by rw [hl2]
              have hN : J8 G (doF s.1.f ⟨kd2, x2, A2, B2, E2, D2⟩).f fl2 (s.1.i + 1) l2 := by rw [hl2]; exact hb4
              refine wp_skip ?_
              refine then_normal ?_
              refine wp_exit ?_
              refine then_exit ?_
              refine blk_exit ?_
              refine then_normal ?_
              refine c_region ?_
              first | refine wl (wl_val hl rfl trivial (r_add hl rfl rfl (by simp only [Fits]; omega)) ?_) | refine wl (wl_val hl rfl trivial (r_addW hl rfl rfl) ?_)
              clear hl a; intro a hl
              refine wl (wl_val hl rfl trivial (r_move hl rfl) ?_)
              clear hl a; intro a hl
              refine w_nil ?_
              have hl2 := hl.add (t := 3) (hl.add (t := 5) (hl.add (t := 7) (hl.add (t := 8) (hl.add (t := 9) (hl.add (t := 39) (hl.add (t := 40) (hl.add (t := 41) (hl.nil) rfl) rfl) rfl) rfl) rfl) rfl) rfl) rfl; clear hl; have hl := hl2; clear hl2
              refine then_normal ?_
              refine ⟨(⟨s.1.i + 1, (doF s.1.f ⟨kd2, x2, A2, B2, E2, D2⟩).f, fl2, keepF s.1.rs ⟨kd2, x2, A2, B2, E2, D2⟩ (doF s.1.f ⟨kd2, x2, A2, B2, E2, D2⟩).ans, rv2, E3⟩, l2), (by dsimp only; omega), ⟨hI.next hi hok hI2 hR2, hN⟩, hl.addE (t := 41) (hl.addE (t := 3) (hl.addE (t := 5) (hl.addE (t := 7) (hl.addE (t := 8) (hl.addE (t := 9) (hl.addE (t := 39) (hl.addE (t := 40) (hl.nil) rfl (by first | rfl | rfl)) rfl (by first | rfl | rfl)) rfl (by first | rfl | rfl)) rfl (by first | rfl | rfl)) rfl (by first | rfl | rfl)) rfl (by first | rfl | rfl)) rfl (by first | rfl | rfl)) rfl (by first | rfl | rfl), (by simp only [List.cons_append, List.nil_append, List.append_nil]; exact hh.keep (by repeat (first | exact keeps_nil | apply keeps_cons (by repeat (first | exact find_head | apply find_tail)) (by first  | (rw [hla]; done) | (rw [hlb]; done) | exact uIn_all hIx hOk (by omega) | exact uV_same hfr | rfl) | exact keeps_self | apply keeps_mv)))⟩
          · intro hg7; clear hl; intro hl
            try simp only [decide_eq_true_eq, decide_eq_false_iff_not, Bool.not_eq_true', Bool.not_eq_false', Bool.not_eq_true, Bool.not_eq_false, Bool.and_eq_true, Bool.or_eq_true, Bool.and_eq_false_iff, Bool.or_eq_false_iff, Bool.not_not, ne_eq, Int.not_lt, Int.not_le, Decidable.not_not, beq_iff_eq, bne_iff_ne] at hg7
            refine wl (wl_skip hl rfl ⟨_, _, rfl, rfl, rfl⟩ ?_)
            clear hl a; intro a hl
            refine wl (wl_skip hl rfl ⟨_, _, rfl, rfl, rfl⟩ ?_)
            clear hl a; intro a hl
            refine wl (wl_skip hl rfl ⟨_, _, rfl, rfl, rfl⟩ ?_)
            clear hl a; intro a hl
            refine wl (wl_val hl rfl trivial (r_pickF hl rfl rfl) ?_)
            clear hl a; intro a hl
            refine w_nil ?_
            have hl2 := hl.add (t := 3) (hl.add (t := 5) (hl.add (t := 7) (hl.add (t := 8) (hl.add (t := 9) (hl.add (t := 13) (hl.add (t := 39) (hl.add (t := 40) (hl.add (t := 41) (hl.add (t := 65) (hl.nil) rfl) rfl) rfl) rfl) rfl) rfl) rfl) rfl) rfl) rfl; clear hl; have hl := hl2; clear hl2
            refine then_normal ?_
            refine c_condF hl rfl ?_
            have hb3 : fresh (doF s.1.f ⟨kd2, x2, A2, B2, E2, D2⟩).f = fresh s.1.f ∧ J8 G (doF s.1.f ⟨kd2, x2, A2, B2, E2, D2⟩).f fl2 (s.1.i + 1) s.2 := by
              by_cases ht0 : t = 0
              · have hj0 : judgeF s.1.f A2 = 0 := by
                  have h7 := h6.2
                  rw [hr] at h7
                  injection h7 with e0
                  omega
                obtain ⟨_, sy, flx, hIx, hFk⟩ := hI.inv.freeOk A2 hj0
                rw [← h6.1] at hIx hFk
                exact ⟨hFk.frs, hJ.spend hj0 hFk hIx hI2 (by omega) hI.inv⟩
              · have hf := (doF_refuse s.1.f ⟨kd2, x2, A2, B2, E2, D2⟩ (by rw [hr]; exact ht0)).1
                have hsm : SameBut s.1.f (doF s.1.f ⟨kd2, x2, A2, B2, E2, D2⟩).f := by rw [hf]; exact SameBut.refl _
                exact ⟨hsm.fresh, hJ.same hsm hI.inv hI2⟩
            obtain ⟨hfr, hb4⟩ := hb3
            obtain ⟨l2, hl2⟩ : ∃ l2, l2 = s.2 := ⟨_, rfl⟩
            have hla : l2.1 = s.2.1 := by rw [hl2]
            have hlb : l2.2 = s.2.2 := by rw [hl2]
            have hN : J8 G (doF s.1.f ⟨kd2, x2, A2, B2, E2, D2⟩).f fl2 (s.1.i + 1) l2 := by rw [hl2]; exact hb4
            refine wp_skip ?_
            refine then_normal ?_
            refine wp_exit ?_
            refine then_exit ?_
            refine blk_exit ?_
            refine then_normal ?_
            refine c_region ?_
            first | refine wl (wl_val hl rfl trivial (r_add hl rfl rfl (by simp only [Fits]; omega)) ?_) | refine wl (wl_val hl rfl trivial (r_addW hl rfl rfl) ?_)
            clear hl a; intro a hl
            refine wl (wl_val hl rfl trivial (r_move hl rfl) ?_)
            clear hl a; intro a hl
            refine w_nil ?_
            have hl2 := hl.add (t := 3) (hl.add (t := 5) (hl.add (t := 7) (hl.add (t := 8) (hl.add (t := 9) (hl.add (t := 39) (hl.add (t := 40) (hl.add (t := 41) (hl.nil) rfl) rfl) rfl) rfl) rfl) rfl) rfl) rfl; clear hl; have hl := hl2; clear hl2
            refine then_normal ?_
            refine ⟨(⟨s.1.i + 1, (doF s.1.f ⟨kd2, x2, A2, B2, E2, D2⟩).f, fl2, keepF s.1.rs ⟨kd2, x2, A2, B2, E2, D2⟩ (doF s.1.f ⟨kd2, x2, A2, B2, E2, D2⟩).ans, rv2, E3⟩, l2), (by dsimp only; omega), ⟨hI.next hi hok hI2 hR2, hN⟩, hl.addE (t := 41) (hl.addE (t := 3) (hl.addE (t := 5) (hl.addE (t := 7) (hl.addE (t := 8) (hl.addE (t := 9) (hl.addE (t := 39) (hl.addE (t := 40) (hl.nil) rfl (by first | rfl | rfl)) rfl (by first | rfl | rfl)) rfl (by first | rfl | rfl)) rfl (by first | rfl | rfl)) rfl (by first | rfl | rfl)) rfl (by first | rfl | rfl)) rfl (by first | rfl | rfl)) rfl (by first | rfl | rfl), (by simp only [List.cons_append, List.nil_append, List.append_nil]; exact hh.keep (by repeat (first | exact keeps_nil | apply keeps_cons (by repeat (first | exact find_head | apply find_tail)) (by first  | (rw [hla]; done) | (rw [hlb]; done) | exact uIn_all hIx hOk (by omega) | exact uV_same hfr | rfl) | exact keeps_self | apply keeps_mv)))⟩
        · intro hc2
          try simp only [decide_eq_true_eq, decide_eq_false_iff_not, Bool.not_eq_true', Bool.not_eq_false', Bool.not_eq_true, Bool.not_eq_false, Bool.and_eq_true, Bool.or_eq_true, Bool.and_eq_false_iff, Bool.or_eq_false_iff, Bool.not_not, ne_eq, Int.not_lt, Int.not_le, Decidable.not_not, beq_iff_eq, bne_iff_ne] at hc2
          refine wp_skip ?_
          refine then_normal ?_
          refine c_seq ?_
          refine c_seq ?_
          refine c_region ?_
          refine wl (wl_val hl rfl trivial (r_field hl rfl fld36_0) ?_)
          clear hl a; intro a hl
          refine wl (w_load hl hh rfl trivial one32 rfl (by repeat (first | exact find_head | apply find_tail)) (by first | rfl) ?_)
          clear hl a; intro a hl
          refine wl (wl_val hl rfl trivial (r_neq hl rfl rfl) ?_)
          clear hl a; intro a hl
          refine wl (wl_val hl rfl trivial (r_move hl rfl) ?_)
          clear hl a; intro a hl
          refine sl_split (t := 75) hl rfl ?_ ?_
          · intro hg8; clear hl; intro hl
            try simp only [decide_eq_true_eq, decide_eq_false_iff_not, Bool.not_eq_true', Bool.not_eq_false', Bool.not_eq_true, Bool.not_eq_false, Bool.and_eq_true, Bool.or_eq_true, Bool.and_eq_false_iff, Bool.or_eq_false_iff, Bool.not_not, ne_eq, Int.not_lt, Int.not_le, Decidable.not_not, beq_iff_eq, bne_iff_ne] at hg8
            refine wl (wl_skip hl rfl ⟨_, _, rfl, rfl, rfl⟩ ?_)
            clear hl a; intro a hl
            refine wl (wl_skip hl rfl ⟨_, _, rfl, rfl, rfl⟩ ?_)
            clear hl a; intro a hl
            refine wl (wl_skip hl rfl ⟨_, _, rfl, rfl, rfl⟩ ?_)
            clear hl a; intro a hl
            refine wl (wl_val hl rfl trivial (r_pickT hl rfl rfl) ?_)
            clear hl a; intro a hl
            refine wl (wl_val hl rfl trivial (r_move hl rfl) ?_)
            clear hl a; intro a hl
            refine wl (wl_skip hl rfl ⟨_, _, rfl, rfl, rfl⟩ ?_)
            clear hl a; intro a hl
            refine wl (wl_skip hl rfl ⟨_, _, rfl, rfl, rfl⟩ ?_)
            clear hl a; intro a hl
            refine wl (wl_skip hl rfl ⟨_, _, rfl, rfl, rfl⟩ ?_)
            clear hl a; intro a hl
            refine wl (wl_val hl rfl trivial (r_pickT hl rfl rfl) ?_)
            clear hl a; intro a hl
            refine w_nil ?_
            have hl2 := hl.add (t := 3) (hl.add (t := 5) (hl.add (t := 7) (hl.add (t := 8) (hl.add (t := 9) (hl.add (t := 12) (hl.add (t := 39) (hl.add (t := 40) (hl.add (t := 41) (hl.add (t := 84) (hl.nil) rfl) rfl) rfl) rfl) rfl) rfl) rfl) rfl) rfl) rfl; clear hl; have hl := hl2; clear hl2
            refine then_normal ?_
            refine c_condT hl rfl ?_
            refine c_seq ?_
            refine c_region ?_
            refine wl (wl_val hl rfl trivial (r_move hl rfl) ?_)
            clear hl a; intro a hl
            first | refine wl (w_loadA hl hh rfl trivial agg36 rfl (by repeat (first | exact find_head | apply find_tail)) (by first | (simp only [List.getElem?_cons_zero, List.getElem?_cons_succ, Value.cells, List.take_zero, List.take_succ_cons, List.take_nil, List.drop_zero, List.drop_succ_cons, List.drop_nil, List.length_cons, List.length_nil, List.cons_append, List.nil_append, List.append_nil, Nat.zero_add, Nat.add_zero, Nat.reduceAdd, Nat.reduceBEq, Nat.reduceEqDiff, Nat.ble, BEq.rfl, Bool.and_true, Bool.and_self, cond_true, beq_self_eq_true]; rfl)) (by first | rfl | (simp; done)) ?_) | refine wl (w_loadRA hl hh rfl trivial agg36 rfl hm (by simp) hqv rfl ?_)
            clear hl a; intro a hl
            refine wl (w_call hl hh rfl trivial rfl cal17 rfl (gdo_spec gb b hI.inv (by omega) s.1.rs s.1.rv s.1.Er hI.row (by have := hI.len; omega) ⟨kd2, x2, A2, B2, E2, D2⟩ hok) (by repeat (first | exact keeps_nil | apply keeps_cons (by repeat (first | exact find_head | apply find_tail)) (by first  | rfl) | exact keeps_self | apply keeps_mv)) trivial ?_)
            clear hl hh a w; intro vc Fc a w hR hl hh
            obtain ⟨rfl, rv2, E3, hR2, rfl⟩ := hR
            try simp only [List.cons_append, List.nil_append] at hh
            replace hh := has_comm2 hh; simp only [List.cons_append, List.nil_append, List.append_nil] at hh; have hts := doF_st s.1.f ⟨kd2, x2, A2, B2, E2, D2⟩; generalize hr : (doF s.1.f ⟨kd2, x2, A2, B2, E2, D2⟩).ans = r at hl hts; obtain ⟨t, pp, u, u1⟩ := r; simp only [Ans.l] at hl; simp only at hts
            have hsm := doF_sameBut s.1.f ⟨kd2, x2, A2, B2, E2, D2⟩ (fun e z => by obtain ⟨_, _, z3⟩ := doF_alloc s.1.f ⟨kd2, x2, A2, B2, E2, D2⟩ e z; obtain ⟨y1, y2, _⟩ := hI.inv.allocOk A2 z3; simp only at e; omega) (fun e => by simp only at e; omega)
            have hfr := hsm.fresh
            obtain ⟨l2, hl2⟩ : ∃ l2, l2 = s.2 := ⟨_, rfl⟩
            have hla : l2.1 = s.2.1 := by rw [hl2]
            have hlb : l2.2 = s.2.2 := by rw [hl2]
            have hN : J8 G (doF s.1.f ⟨kd2, x2, A2, B2, E2, D2⟩).f fl2 (s.1.i + 1) l2 := by rw [hl2]; exact hJ.same hsm hI.inv hI2
            refine w_nil ?_
            have hl2 := hl.add (t := 3) (hl.add (t := 5) (hl.add (t := 7) (hl.add (t := 8) (hl.add (t := 9) (hl.add (t := 39) (hl.add (t := 40) (hl.add (t := 41) (hl.nil) rfl) rfl) rfl) rfl) rfl) rfl) rfl) rfl; clear hl; have hl := hl2; clear hl2
            refine then_normal ?_
            refine wp_exit ?_
            refine then_exit ?_
            refine blk_exit ?_
            refine then_normal ?_
            refine c_region ?_
            first | refine wl (wl_val hl rfl trivial (r_add hl rfl rfl (by simp only [Fits]; omega)) ?_) | refine wl (wl_val hl rfl trivial (r_addW hl rfl rfl) ?_)
            clear hl a; intro a hl
            refine wl (wl_val hl rfl trivial (r_move hl rfl) ?_)
            clear hl a; intro a hl
            refine w_nil ?_
            have hl2 := hl.add (t := 3) (hl.add (t := 5) (hl.add (t := 7) (hl.add (t := 8) (hl.add (t := 9) (hl.add (t := 39) (hl.add (t := 40) (hl.add (t := 41) (hl.nil) rfl) rfl) rfl) rfl) rfl) rfl) rfl) rfl; clear hl; have hl := hl2; clear hl2
            refine then_normal ?_
            refine ⟨(⟨s.1.i + 1, (doF s.1.f ⟨kd2, x2, A2, B2, E2, D2⟩).f, fl2, keepF s.1.rs ⟨kd2, x2, A2, B2, E2, D2⟩ (doF s.1.f ⟨kd2, x2, A2, B2, E2, D2⟩).ans, rv2, E3⟩, l2), (by dsimp only; omega), ⟨hI.next hi hok hI2 hR2, hN⟩, hl.addE (t := 41) (hl.addE (t := 3) (hl.addE (t := 5) (hl.addE (t := 7) (hl.addE (t := 8) (hl.addE (t := 9) (hl.addE (t := 39) (hl.addE (t := 40) (hl.nil) rfl (by first | rfl | rfl)) rfl (by first | rfl | rfl)) rfl (by first | rfl | rfl)) rfl (by first | rfl | rfl)) rfl (by first | rfl | rfl)) rfl (by first | rfl | rfl)) rfl (by first | rfl | rfl)) rfl (by first | rfl | rfl), (by simp only [List.cons_append, List.nil_append, List.append_nil]; exact hh.keep (by repeat (first | exact keeps_nil | apply keeps_cons (by repeat (first | exact find_head | apply find_tail)) (by first  | (rw [hla]; done) | (rw [hlb]; done) | exact uIn_all hIx hOk (by omega) | exact uV_same hfr | rfl) | exact keeps_self | apply keeps_mv)))⟩
          · intro hg8; clear hl; intro hl
            try simp only [decide_eq_true_eq, decide_eq_false_iff_not, Bool.not_eq_true', Bool.not_eq_false', Bool.not_eq_true, Bool.not_eq_false, Bool.and_eq_true, Bool.or_eq_true, Bool.and_eq_false_iff, Bool.or_eq_false_iff, Bool.not_not, ne_eq, Int.not_lt, Int.not_le, Decidable.not_not, beq_iff_eq, bne_iff_ne] at hg8
            refine wl (wl_val hl rfl ⟨_, _, rfl, rfl, rfl⟩ (r_field hl rfl fld36_2) ?_)
            clear hl a; intro a hl
            refine wl (w_load hl hh rfl ⟨_, _, rfl, rfl, rfl⟩ one27 rfl (by repeat (first | exact find_head | apply find_tail)) (by first | rfl) ?_)
            clear hl a; intro a hl
            refine wl (wl_val hl rfl ⟨_, _, rfl, rfl, rfl⟩ (r_lss hl rfl rfl) ?_)
            clear hl a; intro a hl
            refine wl (wl_val hl rfl trivial (r_pickF hl rfl rfl) ?_)
            clear hl a; intro a hl
            refine wl (wl_val hl rfl trivial (r_move hl rfl) ?_)
            clear hl a; intro a hl
            refine sl_split (t := 80) hl rfl ?_ ?_
            · intro hg9; clear hl; intro hl
              try simp only [decide_eq_true_eq, decide_eq_false_iff_not, Bool.not_eq_true', Bool.not_eq_false', Bool.not_eq_true, Bool.not_eq_false, Bool.and_eq_true, Bool.or_eq_true, Bool.and_eq_false_iff, Bool.or_eq_false_iff, Bool.not_not, ne_eq, Int.not_lt, Int.not_le, Decidable.not_not, beq_iff_eq, bne_iff_ne] at hg9
              refine wl (wl_skip hl rfl ⟨_, _, rfl, rfl, rfl⟩ ?_)
              clear hl a; intro a hl
              refine wl (wl_skip hl rfl ⟨_, _, rfl, rfl, rfl⟩ ?_)
              clear hl a; intro a hl
              refine wl (wl_skip hl rfl ⟨_, _, rfl, rfl, rfl⟩ ?_)
              clear hl a; intro a hl
              refine wl (wl_val hl rfl trivial (r_pickT hl rfl rfl) ?_)
              clear hl a; intro a hl
              refine w_nil ?_
              have hl2 := hl.add (t := 3) (hl.add (t := 5) (hl.add (t := 7) (hl.add (t := 8) (hl.add (t := 9) (hl.add (t := 12) (hl.add (t := 39) (hl.add (t := 40) (hl.add (t := 41) (hl.add (t := 84) (hl.nil) rfl) rfl) rfl) rfl) rfl) rfl) rfl) rfl) rfl) rfl; clear hl; have hl := hl2; clear hl2
              refine then_normal ?_
              refine c_condT hl rfl ?_
              refine c_seq ?_
              refine c_region ?_
              refine wl (wl_val hl rfl trivial (r_move hl rfl) ?_)
              clear hl a; intro a hl
              first | refine wl (w_loadA hl hh rfl trivial agg36 rfl (by repeat (first | exact find_head | apply find_tail)) (by first | (simp only [List.getElem?_cons_zero, List.getElem?_cons_succ, Value.cells, List.take_zero, List.take_succ_cons, List.take_nil, List.drop_zero, List.drop_succ_cons, List.drop_nil, List.length_cons, List.length_nil, List.cons_append, List.nil_append, List.append_nil, Nat.zero_add, Nat.add_zero, Nat.reduceAdd, Nat.reduceBEq, Nat.reduceEqDiff, Nat.ble, BEq.rfl, Bool.and_true, Bool.and_self, cond_true, beq_self_eq_true]; rfl)) (by first | rfl | (simp; done)) ?_) | refine wl (w_loadRA hl hh rfl trivial agg36 rfl hm (by simp) hqv rfl ?_)
              clear hl a; intro a hl
              refine wl (w_call hl hh rfl trivial rfl cal17 rfl (gdo_spec gb b hI.inv (by omega) s.1.rs s.1.rv s.1.Er hI.row (by have := hI.len; omega) ⟨kd2, x2, A2, B2, E2, D2⟩ hok) (by repeat (first | exact keeps_nil | apply keeps_cons (by repeat (first | exact find_head | apply find_tail)) (by first  | rfl) | exact keeps_self | apply keeps_mv)) trivial ?_)
              clear hl hh a w; intro vc Fc a w hR hl hh
              obtain ⟨rfl, rv2, E3, hR2, rfl⟩ := hR
              try simp only [List.cons_append, List.nil_append] at hh
              replace hh := has_comm2 hh; simp only [List.cons_append, List.nil_append, List.append_nil] at hh; have hts := doF_st s.1.f ⟨kd2, x2, A2, B2, E2, D2⟩; generalize hr : (doF s.1.f ⟨kd2, x2, A2, B2, E2, D2⟩).ans = r at hl hts; obtain ⟨t, pp, u, u1⟩ := r; simp only [Ans.l] at hl; simp only at hts
              have hsm := doF_sameBut s.1.f ⟨kd2, x2, A2, B2, E2, D2⟩ (fun e z => by obtain ⟨_, _, z3⟩ := doF_alloc s.1.f ⟨kd2, x2, A2, B2, E2, D2⟩ e z; obtain ⟨y1, y2, _⟩ := hI.inv.allocOk A2 z3; simp only at e; omega) (fun e => by simp only at e; omega)
              have hfr := hsm.fresh
              obtain ⟨l2, hl2⟩ : ∃ l2, l2 = s.2 := ⟨_, rfl⟩
              have hla : l2.1 = s.2.1 := by rw [hl2]
              have hlb : l2.2 = s.2.2 := by rw [hl2]
              have hN : J8 G (doF s.1.f ⟨kd2, x2, A2, B2, E2, D2⟩).f fl2 (s.1.i + 1) l2 := by rw [hl2]; exact hJ.same hsm hI.inv hI2
              refine w_nil ?_
              have hl2 := hl.add (t := 3) (hl.add (t := 5) (hl.add (t := 7) (hl.add (t := 8) (hl.add (t := 9) (hl.add (t := 39) (hl.add (t := 40) (hl.add (t := 41) (hl.nil) rfl) rfl) rfl) rfl) rfl) rfl) rfl) rfl; clear hl; have hl := hl2; clear hl2
              refine then_normal ?_
              refine wp_exit ?_
              refine then_exit ?_
              refine blk_exit ?_
              refine then_normal ?_
              refine c_region ?_
              first | refine wl (wl_val hl rfl trivial (r_add hl rfl rfl (by simp only [Fits]; omega)) ?_) | refine wl (wl_val hl rfl trivial (r_addW hl rfl rfl) ?_)
              clear hl a; intro a hl
              refine wl (wl_val hl rfl trivial (r_move hl rfl) ?_)
              clear hl a; intro a hl
              refine w_nil ?_
              have hl2 := hl.add (t := 3) (hl.add (t := 5) (hl.add (t := 7) (hl.add (t := 8) (hl.add (t := 9) (hl.add (t := 39) (hl.add (t := 40) (hl.add (t := 41) (hl.nil) rfl) rfl) rfl) rfl) rfl) rfl) rfl) rfl; clear hl; have hl := hl2; clear hl2
              refine then_normal ?_
              refine ⟨(⟨s.1.i + 1, (doF s.1.f ⟨kd2, x2, A2, B2, E2, D2⟩).f, fl2, keepF s.1.rs ⟨kd2, x2, A2, B2, E2, D2⟩ (doF s.1.f ⟨kd2, x2, A2, B2, E2, D2⟩).ans, rv2, E3⟩, l2), (by dsimp only; omega), ⟨hI.next hi hok hI2 hR2, hN⟩, hl.addE (t := 41) (hl.addE (t := 3) (hl.addE (t := 5) (hl.addE (t := 7) (hl.addE (t := 8) (hl.addE (t := 9) (hl.addE (t := 39) (hl.addE (t := 40) (hl.nil) rfl (by first | rfl | rfl)) rfl (by first | rfl | rfl)) rfl (by first | rfl | rfl)) rfl (by first | rfl | rfl)) rfl (by first | rfl | rfl)) rfl (by first | rfl | rfl)) rfl (by first | rfl | rfl)) rfl (by first | rfl | rfl), (by simp only [List.cons_append, List.nil_append, List.append_nil]; exact hh.keep (by repeat (first | exact keeps_nil | apply keeps_cons (by repeat (first | exact find_head | apply find_tail)) (by first  | (rw [hla]; done) | (rw [hlb]; done) | exact uIn_all hIx hOk (by omega) | exact uV_same hfr | rfl) | exact keeps_self | apply keeps_mv)))⟩
            · intro hg9; clear hl; intro hl
              try simp only [decide_eq_true_eq, decide_eq_false_iff_not, Bool.not_eq_true', Bool.not_eq_false', Bool.not_eq_true, Bool.not_eq_false, Bool.and_eq_true, Bool.or_eq_true, Bool.and_eq_false_iff, Bool.or_eq_false_iff, Bool.not_not, ne_eq, Int.not_lt, Int.not_le, Decidable.not_not, beq_iff_eq, bne_iff_ne] at hg9
              refine wl (wl_val hl rfl ⟨_, _, rfl, rfl, rfl⟩ (r_field hl rfl fld36_2) ?_)
              clear hl a; intro a hl
              refine wl (w_load hl hh rfl ⟨_, _, rfl, rfl, rfl⟩ one27 rfl (by repeat (first | exact find_head | apply find_tail)) (by first | rfl) ?_)
              clear hl a; intro a hl
              refine wl (wl_val hl rfl ⟨_, _, rfl, rfl, rfl⟩ (r_gtr hl rfl rfl) ?_)
              clear hl a; intro a hl
              refine wl (wl_val hl rfl trivial (r_pickF hl rfl rfl) ?_)
              clear hl a; intro a hl
              refine w_nil ?_
              have hl2 := hl.add (t := 3) (hl.add (t := 5) (hl.add (t := 7) (hl.add (t := 8) (hl.add (t := 9) (hl.add (t := 12) (hl.add (t := 39) (hl.add (t := 40) (hl.add (t := 41) (hl.add (t := 84) (hl.nil) rfl) rfl) rfl) rfl) rfl) rfl) rfl) rfl) rfl) rfl; clear hl; have hl := hl2; clear hl2
              refine then_normal ?_
              refine c_cond hl rfl ?_ ?_
              · intro hc4
                try simp only [decide_eq_true_eq, decide_eq_false_iff_not, Bool.not_eq_true', Bool.not_eq_false', Bool.not_eq_true, Bool.not_eq_false, Bool.and_eq_true, Bool.or_eq_true, Bool.and_eq_false_iff, Bool.or_eq_false_iff, Bool.not_not, ne_eq, Int.not_lt, Int.not_le, Decidable.not_not, beq_iff_eq, bne_iff_ne] at hc4
                refine c_seq ?_
                refine c_region ?_
                refine wl (wl_val hl rfl trivial (r_move hl rfl) ?_)
                clear hl a; intro a hl
                first | refine wl (w_loadA hl hh rfl trivial agg36 rfl (by repeat (first | exact find_head | apply find_tail)) (by first | (simp only [List.getElem?_cons_zero, List.getElem?_cons_succ, Value.cells, List.take_zero, List.take_succ_cons, List.take_nil, List.drop_zero, List.drop_succ_cons, List.drop_nil, List.length_cons, List.length_nil, List.cons_append, List.nil_append, List.append_nil, Nat.zero_add, Nat.add_zero, Nat.reduceAdd, Nat.reduceBEq, Nat.reduceEqDiff, Nat.ble, BEq.rfl, Bool.and_true, Bool.and_self, cond_true, beq_self_eq_true]; rfl)) (by first | rfl | (simp; done)) ?_) | refine wl (w_loadRA hl hh rfl trivial agg36 rfl hm (by simp) hqv rfl ?_)
                clear hl a; intro a hl
                refine wl (w_call hl hh rfl trivial rfl cal17 rfl (gdo_spec gb b hI.inv (by omega) s.1.rs s.1.rv s.1.Er hI.row (by have := hI.len; omega) ⟨kd2, x2, A2, B2, E2, D2⟩ hok) (by repeat (first | exact keeps_nil | apply keeps_cons (by repeat (first | exact find_head | apply find_tail)) (by first  | rfl) | exact keeps_self | apply keeps_mv)) trivial ?_)
                clear hl hh a w; intro vc Fc a w hR hl hh
                obtain ⟨rfl, rv2, E3, hR2, rfl⟩ := hR
                try simp only [List.cons_append, List.nil_append] at hh
                replace hh := has_comm2 hh; simp only [List.cons_append, List.nil_append, List.append_nil] at hh; have hts := doF_st s.1.f ⟨kd2, x2, A2, B2, E2, D2⟩; generalize hr : (doF s.1.f ⟨kd2, x2, A2, B2, E2, D2⟩).ans = r at hl hts; obtain ⟨t, pp, u, u1⟩ := r; simp only [Ans.l] at hl; simp only at hts
                have hsm := doF_sameBut s.1.f ⟨kd2, x2, A2, B2, E2, D2⟩ (fun e z => by obtain ⟨_, _, z3⟩ := doF_alloc s.1.f ⟨kd2, x2, A2, B2, E2, D2⟩ e z; obtain ⟨y1, y2, _⟩ := hI.inv.allocOk A2 z3; simp only at e; omega) (fun e => by simp only at e; omega)
                have hfr := hsm.fresh
                obtain ⟨l2, hl2⟩ : ∃ l2, l2 = s.2 := ⟨_, rfl⟩
                have hla : l2.1 = s.2.1 := by rw [hl2]
                have hlb : l2.2 = s.2.2 := by rw [hl2]
                have hN : J8 G (doF s.1.f ⟨kd2, x2, A2, B2, E2, D2⟩).f fl2 (s.1.i + 1) l2 := by rw [hl2]; exact hJ.same hsm hI.inv hI2
                refine w_nil ?_
                have hl2 := hl.add (t := 3) (hl.add (t := 5) (hl.add (t := 7) (hl.add (t := 8) (hl.add (t := 9) (hl.add (t := 39) (hl.add (t := 40) (hl.add (t := 41) (hl.nil) rfl) rfl) rfl) rfl) rfl) rfl) rfl) rfl; clear hl; have hl := hl2; clear hl2
                refine then_normal ?_
                refine wp_exit ?_
                refine then_exit ?_
                refine blk_exit ?_
                refine then_normal ?_
                refine c_region ?_
                first | refine wl (wl_val hl rfl trivial (r_add hl rfl rfl (by simp only [Fits]; omega)) ?_) | refine wl (wl_val hl rfl trivial (r_addW hl rfl rfl) ?_)
                clear hl a; intro a hl
                refine wl (wl_val hl rfl trivial (r_move hl rfl) ?_)
                clear hl a; intro a hl
                refine w_nil ?_
                have hl2 := hl.add (t := 3) (hl.add (t := 5) (hl.add (t := 7) (hl.add (t := 8) (hl.add (t := 9) (hl.add (t := 39) (hl.add (t := 40) (hl.add (t := 41) (hl.nil) rfl) rfl) rfl) rfl) rfl) rfl) rfl) rfl; clear hl; have hl := hl2; clear hl2
                refine then_normal ?_
                refine ⟨(⟨s.1.i + 1, (doF s.1.f ⟨kd2, x2, A2, B2, E2, D2⟩).f, fl2, keepF s.1.rs ⟨kd2, x2, A2, B2, E2, D2⟩ (doF s.1.f ⟨kd2, x2, A2, B2, E2, D2⟩).ans, rv2, E3⟩, l2), (by dsimp only; omega), ⟨hI.next hi hok hI2 hR2, hN⟩, hl.addE (t := 41) (hl.addE (t := 3) (hl.addE (t := 5) (hl.addE (t := 7) (hl.addE (t := 8) (hl.addE (t := 9) (hl.addE (t := 39) (hl.addE (t := 40) (hl.nil) rfl (by first | rfl | rfl)) rfl (by first | rfl | rfl)) rfl (by first | rfl | rfl)) rfl (by first | rfl | rfl)) rfl (by first | rfl | rfl)) rfl (by first | rfl | rfl)) rfl (by first | rfl | rfl)) rfl (by first | rfl | rfl), (by simp only [List.cons_append, List.nil_append, List.append_nil]; exact hh.keep (by repeat (first | exact keeps_nil | apply keeps_cons (by repeat (first | exact find_head | apply find_tail)) (by first  | (rw [hla]; done) | (rw [hlb]; done) | exact uIn_all hIx hOk (by omega) | exact uV_same hfr | rfl) | exact keeps_self | apply keeps_mv)))⟩
              · intro hc4
                try simp only [decide_eq_true_eq, decide_eq_false_iff_not, Bool.not_eq_true', Bool.not_eq_false', Bool.not_eq_true, Bool.not_eq_false, Bool.and_eq_true, Bool.or_eq_true, Bool.and_eq_false_iff, Bool.or_eq_false_iff, Bool.not_not, ne_eq, Int.not_lt, Int.not_le, Decidable.not_not, beq_iff_eq, bne_iff_ne] at hc4
                refine wp_skip ?_
                refine then_normal ?_
                refine c_seq ?_
                refine c_region ?_
                refine wl (wl_val hl rfl trivial (r_field hl rfl fld36_2) ?_)
                clear hl a; intro a hl
                refine wl (w_load hl hh rfl trivial one27 rfl (by repeat (first | exact find_head | apply find_tail)) (by first | rfl) ?_)
                clear hl a; intro a hl
                refine wl (w_call hl hh rfl trivial rfl cal28 rfl (nodeSize_spec A2 (by omega)) (by repeat (first | exact keeps_nil | apply keeps_cons (by repeat (first | exact find_head | apply find_tail)) (by first  | rfl) | exact keeps_self | apply keeps_mv)) trivial ?_)
                clear hl hh a w; intro vc Fc a w hR hl hh
                obtain ⟨rfl, rfl⟩ := hR
                try simp only [List.cons_append, List.nil_append] at hh
                obtain ⟨sx, hsx⟩ : ∃ sx, sx = (A2 + 1) / 2 * 2 := ⟨_, rfl⟩; rw [← hsx] at hl
                refine wl (wl_val hl rfl trivial (r_assign hl rfl) ?_)
                clear hl a; intro a hl
                refine w_nil ?_
                have hl2 := hl.add (t := 3) (hl.add (t := 5) (hl.add (t := 7) (hl.add (t := 8) (hl.add (t := 9) (hl.add (t := 12) (hl.add (t := 14) (hl.add (t := 39) (hl.add (t := 40) (hl.add (t := 41) (hl.nil) rfl) rfl) rfl) rfl) rfl) rfl) rfl) rfl) rfl) rfl; clear hl; have hl := hl2; clear hl2
                refine then_normal ?_
                refine c_seq ?_
                refine c_region ?_
                refine wl (wl_val hl rfl trivial (r_move hl rfl) ?_)
                clear hl a; intro a hl
                refine wl (wl_val hl rfl trivial (r_nilCheck hl rfl) ?_)
                clear hl a; intro a hl
                refine wl (wl_val hl rfl trivial (r_field hl rfl fld41_0) ?_)
                clear hl a; intro a hl
                refine wl (w_load hl hh rfl trivial one38 rfl (by repeat (first | exact find_head | apply find_tail)) (by first | rfl) ?_)
                clear hl a; intro a hl
                refine wl (w_call hl hh rfl trivial rfl cal25 rfl (clone_spec b s.1.f) (by repeat (first | exact keeps_nil | apply keeps_cons (by repeat (first | exact find_head | apply find_tail)) (by first  | rfl) | exact keeps_self | apply keeps_mv)) trivial ?_)
                clear hl hh a w; intro vc Fc a w hR hl hh
                obtain ⟨kc, rfl, rfl⟩ := hR
                try simp only [List.cons_append, List.nil_append] at hh
                refine wl (wl_val hl rfl trivial (r_assign hl rfl) ?_)
                clear hl a; intro a hl
                refine w_nil ?_
                have hl2 := hl.add (t := 3) (hl.add (t := 5) (hl.add (t := 7) (hl.add (t := 8) (hl.add (t := 9) (hl.add (t := 12) (hl.add (t := 14) (hl.add (t := 15) (hl.add (t := 39) (hl.add (t := 40) (hl.add (t := 41) (hl.nil) rfl) rfl) rfl) rfl) rfl) rfl) rfl) rfl) rfl) rfl) rfl; clear hl; have hl := hl2; clear hl2
                refine then_normal ?_
                refine c_seq ?_
                refine c_region ?_
                refine wl (wl_val hl rfl trivial (r_move hl rfl) ?_)
                clear hl a; intro a hl
                first | refine wl (w_loadA hl hh rfl trivial agg36 rfl (by repeat (first | exact find_head | apply find_tail)) (by first | (simp only [List.getElem?_cons_zero, List.getElem?_cons_succ, Value.cells, List.take_zero, List.take_succ_cons, List.take_nil, List.drop_zero, List.drop_succ_cons, List.drop_nil, List.length_cons, List.length_nil, List.cons_append, List.nil_append, List.append_nil, Nat.zero_add, Nat.add_zero, Nat.reduceAdd, Nat.reduceBEq, Nat.reduceEqDiff, Nat.ble, BEq.rfl, Bool.and_true, Bool.and_self, cond_true, beq_self_eq_true]; rfl)) (by first | rfl | (simp; done)) ?_) | refine wl (w_loadRA hl hh rfl trivial agg36 rfl hm (by simp) hqv rfl ?_)
                clear hl a; intro a hl
                refine wl (w_call hl hh rfl trivial rfl cal17 rfl (gdo_spec gb b hI.inv (by omega) s.1.rs s.1.rv s.1.Er hI.row (by have := hI.len; omega) ⟨kd2, x2, A2, B2, E2, D2⟩ hok) (by repeat (first | exact keeps_nil | apply keeps_cons (by repeat (first | exact find_head | apply find_tail)) (by first  | rfl) | exact keeps_self | apply keeps_mv)) trivial ?_)
                clear hl hh a w; intro vc Fc a w hR hl hh
                obtain ⟨rfl, rv2, E3, hR2, rfl⟩ := hR
                try simp only [List.cons_append, List.nil_append] at hh
                replace hh := has_comm2 hh; simp only [List.cons_append, List.nil_append, List.append_nil] at hh; have hts := doF_st s.1.f ⟨kd2, x2, A2, B2, E2, D2⟩; generalize hr : (doF s.1.f ⟨kd2, x2, A2, B2, E2, D2⟩).ans = r at hl hts; obtain ⟨t, pp, u, u1⟩ := r; simp only [Ans.l] at hl; simp only at hts
                refine wl (w_alloc hl hh rfl trivial zero44 rfl ?_)
                clear hl hh a w; intro k16 a w hl hh
                refine wl (w_storeA hl hh trivial agg44 rfl rfl (by repeat (first | exact find_head | apply find_tail)) (by first | rfl | (simp; done)) (by first | (simp; done) | (simp; omega)) (by first | rfl | (simp; done)) (by first | (simp only [setL, List.getElem?_cons_zero, List.getElem?_cons_succ, Value.cells, List.take_zero, List.take_succ_cons, List.take_nil, List.drop_zero, List.drop_succ_cons, List.drop_nil, List.length_cons, List.length_nil, List.cons_append, List.nil_append, List.append_nil, Nat.zero_add, Nat.add_zero, Nat.reduceAdd, Nat.reduceBEq, Nat.reduceEqDiff, Nat.ble, BEq.rfl, Bool.and_true, Bool.and_self, cond_true, beq_self_eq_true]; rfl)) ?_)
                clear hh w; intro w hh
                refine w_nil ?_
                have hl2 := hl.add (t := 3) (hl.add (t := 5) (hl.add (t := 7) (hl.add (t := 8) (hl.add (t := 9) (hl.add (t := 14) (hl.add (t := 15) (hl.add (t := 16) (hl.add (t := 39) (hl.add (t := 40) (hl.add (t := 41) (hl.nil) rfl) rfl) rfl) rfl) rfl) rfl) rfl) rfl) rfl) rfl) rfl; clear hl; have hl := hl2; clear hl2
                refine then_normal ?_
                refine c_seq ?_
                refine c_region ?_
                refine wl (wl_val hl rfl trivial (r_field hl rfl fld44_0) ?_)
                clear hl a; intro a hl
                refine wl (w_load hl hh rfl trivial one42 rfl (by repeat (first | exact find_head | apply find_tail)) (by first | rfl) ?_)
                clear hl a; intro a hl
                refine w_nil ?_
                have hl2 := hl.add (t := 3) (hl.add (t := 5) (hl.add (t := 7) (hl.add (t := 8) (hl.add (t := 9) (hl.add (t := 14) (hl.add (t := 15) (hl.add (t := 16) (hl.add (t := 39) (hl.add (t := 40) (hl.add (t := 41) (hl.add (t := 100) (hl.nil) rfl) rfl) rfl) rfl) rfl) rfl) rfl) rfl) rfl) rfl) rfl) rfl; clear hl; have hl := hl2; clear hl2
                refine then_normal ?_
                refine wp_block ?_
                refine c_seq ?_
                refine c_region ?_
                refine wl (wl_val hl rfl trivial (r_eql hl rfl rfl) ?_)
                clear hl a; intro a hl
                refine wl (wl_val hl rfl trivial (r_assign hl rfl) ?_)
                clear hl a; intro a hl
                refine w_nil ?_
                have hl2 := hl.add (t := 3) (hl.add (t := 5) (hl.add (t := 7) (hl.add (t := 8) (hl.add (t := 9) (hl.add (t := 14) (hl.add (t := 15) (hl.add (t := 16) (hl.add (t := 39) (hl.add (t := 40) (hl.add (t := 41) (hl.add (t := 100) (hl.add (t := 101) (hl.nil) rfl) rfl) rfl) rfl) rfl) rfl) rfl) rfl) rfl) rfl) rfl) rfl) rfl; clear hl; have hl := hl2; clear hl2
                refine then_normal ?_
                refine c_cond hl rfl ?_ ?_
                · intro hc5
                  try simp only [decide_eq_true_eq, decide_eq_false_iff_not, Bool.not_eq_true', Bool.not_eq_false', Bool.not_eq_true, Bool.not_eq_false, Bool.and_eq_true, Bool.or_eq_true, Bool.and_eq_false_iff, Bool.or_eq_false_iff, Bool.not_not, ne_eq, Int.not_lt, Int.not_le, Decidable.not_not, beq_iff_eq, bne_iff_ne] at hc5
                  obtain ⟨hA1, hA2, hA3⟩ := doF_alloc s.1.f ⟨kd2, x2, A2, B2, E2, D2⟩ (by simp only; omega) (by rw [hr]; simp only; omega)
                  obtain ⟨hA4, hA5, xx, flx, hIx, hOk, href⟩ := hI.inv.allocOk A2 hA3
                  obtain ⟨r0, hr0⟩ : ∃ r0 : Nat, r0 = ((gen s.1.f xx).toNat + 1) * 65536 + xx := ⟨_, rfl⟩
                  rw [← hr0] at href
                  rw [hr, href] at hA2
                  injection hA2 with _ _ e2 _
                  subst e2
                  rw [← hA1] at hOk hIx
                  rw [← hsx] at hOk
                  have hk1 := hOk.s1
                  have hk2 := hOk.s2
                  have hk3 := hOk.x1
                  have hk4 := hOk.xs
                  have hk5 := hOk.g0
                  obtain ⟨hmod, hdiv⟩ := ref_parts (by omega) hr0
                  obtain ⟨hlw, hln⟩ := hJ.at_ hk1 hk2 hOk.s3
                  refine c_seq ?_
                  refine c_region ?_
                  refine wl (wl_val hl rfl trivial (r_field hl rfl fld44_2) ?_)
                  clear hl a; intro a hl
                  refine wl (w_load hl hh rfl trivial one27 rfl (by repeat (first | exact find_head | apply find_tail)) (by first | rfl) ?_)
                  clear hl a; intro a hl
                  refine wl (wl_val hl rfl trivial (r_assign hl rfl) ?_)
                  clear hl a; intro a hl
                  refine w_nil ?_
                  have hl2 := hl.add (t := 3) (hl.add (t := 5) (hl.add (t := 7) (hl.add (t := 8) (hl.add (t := 9) (hl.add (t := 14) (hl.add (t := 17) (hl.add (t := 39) (hl.add (t := 40) (hl.add (t := 41) (hl.nil) rfl) rfl) rfl) rfl) rfl) rfl) rfl) rfl) rfl) rfl; clear hl; have hl := hl2; clear hl2
                  refine then_normal ?_
                  refine c_seq ?_
                  refine c_region ?_
                  refine wl (wl_val hl rfl trivial (r_move hl rfl) ?_)
                  clear hl a; intro a hl
                  refine wl (wl_val hl rfl trivial (r_move hl rfl) ?_)
                  clear hl a; intro a hl
                  refine wl (wl_val hl rfl trivial (r_move hl rfl) ?_)
                  clear hl a; intro a hl
                  refine wl (w_mapUpdate (keyInt Try.underlying63) Try.underlying52 hl hh trivial rfl rfl rfl (by repeat (first | exact find_head | apply find_tail)) ?_)
                  clear hh w; intro w hh
                  refine w_nil ?_
                  have hl2 := hl.add (t := 3) (hl.add (t := 5) (hl.add (t := 7) (hl.add (t := 8) (hl.add (t := 9) (hl.add (t := 14) (hl.add (t := 17) (hl.add (t := 39) (hl.add (t := 40) (hl.add (t := 41) (hl.nil) rfl) rfl) rfl) rfl) rfl) rfl) rfl) rfl) rfl) rfl; clear hl; have hl := hl2; clear hl2
                  refine then_normal ?_
                  refine c_seq ?_
                  refine c_seq ?_
                  refine c_region ?_
                  refine wl (wl_val hl rfl trivial (r_move hl rfl) ?_)
                  clear hl a; intro a hl
                  refine wl (w_call hl hh rfl trivial rfl cal27 rfl (refAddr_spec r0) (by repeat (first | exact keeps_nil | apply keeps_cons (by repeat (first | exact find_head | apply find_tail)) (by first  | rfl) | exact keeps_self | apply keeps_mv)) trivial ?_)
                  clear hl hh a w; intro vc Fc a w hR hl hh
                  obtain ⟨rfl, rfl⟩ := hR
                  try simp only [List.cons_append, List.nil_append] at hh
                  rw [hmod] at hl
                  refine wl (wl_val hl rfl trivial (r_indexA hl rfl rfl arr62 (by omega) (by omega) (by first | (simp only [Int.reduceToNat]; rfl) | exact toNat_add1 _ | exact toNat_add2 _ _ | exact toNat_emod _ _ | exact Int.toNat_natCast _ | rfl)) ?_)
                  clear hl a; intro a hl
                  refine wl (w_load hl hh rfl trivial one4 rfl (by repeat (first | exact find_head | apply find_tail)) (by exact arr_load (by omega)) ?_)
                  clear hl a; intro a hl
                  refine w_nil ?_
                  have hl2 := hl.add (t := 3) (hl.add (t := 5) (hl.add (t := 7) (hl.add (t := 8) (hl.add (t := 9) (hl.add (t := 14) (hl.add (t := 17) (hl.add (t := 39) (hl.add (t := 40) (hl.add (t := 41) (hl.add (t := 111) (hl.nil) rfl) rfl) rfl) rfl) rfl) rfl) rfl) rfl) rfl) rfl) rfl; clear hl; have hl := hl2; clear hl2
                  refine then_normal ?_
                  refine c_cond hl rfl ?_ ?_
                  · intro hc6
                    try simp only [decide_eq_true_eq, decide_eq_false_iff_not, Bool.not_eq_true', Bool.not_eq_false', Bool.not_eq_true, Bool.not_eq_false, Bool.and_eq_true, Bool.or_eq_true, Bool.and_eq_false_iff, Bool.or_eq_false_iff, Bool.not_not, ne_eq, Int.not_lt, Int.not_le, Decidable.not_not, beq_iff_eq, bne_iff_ne] at hc6
                    obtain ⟨hp1, hp2⟩ := hJ.pop hOk hr0 hIx hI2 hc6
                    obtain ⟨l2, hl2⟩ : ∃ l2 : List (Int × Value) × List (Int × Value), l2 = (mput s.2.1 (r0 : Int) (.int .i64 sx), mput s.2.2 (sx : Int) (.int .i64 (((s.1.fl (sx / 2 - 1)).length : Int) - 1))) := ⟨_, rfl⟩
                    have hla : l2.1 = ((mput s.2.1 (r0 : Int) (.int .i64 sx), mput s.2.2 (sx : Int) (.int .i64 (((s.1.fl (sx / 2 - 1)).length : Int) - 1))) : List (Int × Value) × List (Int × Value)).1 := by rw [hl2]
                    have hlb : l2.2 = ((mput s.2.1 (r0 : Int) (.int .i64 sx), mput s.2.2 (sx : Int) (.int .i64 (((s.1.fl (sx / 2 - 1)).length : Int) - 1))) : List (Int × Value) × List (Int × Value)).2 := by rw [hl2]
                    simp only at hla hlb
                    have hN : J8 G (doF s.1.f ⟨kd2, x2, A2, B2, E2, D2⟩).f fl2 (s.1.i + 1) l2 := by rw [hl2]; exact hp2
                    refine c_region ?_
                    refine wl (wl_val hl rfl trivial (r_move hl rfl) ?_)
                    clear hl a; intro a hl
                    refine wl (wl_val hl rfl trivial (r_move hl rfl) ?_)
                    clear hl a; intro a hl
                    refine wl (w_lookup (keyInt Try.underlying3) Try.underlying69 zero3 hl hh rfl trivial rfl rfl (by repeat (first | exact find_head | apply find_tail)) ?_)
                    clear hl a; intro a hl
                    rw [hlw] at hl
                    first | refine wl (wl_val hl rfl trivial (r_sub hl rfl rfl (by simp only [Fits]; omega)) ?_) | refine wl (wl_val hl rfl trivial (r_subW hl rfl rfl) ?_)
                    clear hl a; intro a hl
                    refine wl (w_mapUpdate (keyInt Try.underlying3) Try.underlying69 hl hh trivial rfl rfl rfl (by repeat (first | exact find_head | apply find_tail)) ?_)
                    clear hh w; intro w hh
                    refine w_nil ?_
                    have hl2 := hl.add (t := 3) (hl.add (t := 5) (hl.add (t := 7) (hl.add (t := 8) (hl.add (t := 9) (hl.add (t := 14) (hl.add (t := 17) (hl.add (t := 39) (hl.add (t := 40) (hl.add (t := 41) (hl.nil) rfl) rfl) rfl) rfl) rfl) rfl) rfl) rfl) rfl) rfl; clear hl; have hl := hl2; clear hl2
                    refine then_normal ?_
                    refine c_seq ?_
                    refine c_region ?_
                    refine wl (wl_val hl rfl trivial (r_assign hl rfl) ?_)
                    clear hl a; intro a hl
                    refine w_nil ?_
                    have hl2 := hl.add (t := 3) (hl.add (t := 5) (hl.add (t := 7) (hl.add (t := 8) (hl.add (t := 9) (hl.add (t := 14) (hl.add (t := 17) (hl.add (t := 18) (hl.add (t := 39) (hl.add (t := 40) (hl.add (t := 41) (hl.nil) rfl) rfl) rfl) rfl) rfl) rfl) rfl) rfl) rfl) rfl) rfl; clear hl; have hl := hl2; clear hl2
                    refine then_normal ?_
                    refine wp_block ?_
                    obtain ⟨KS1, hKS1, hk⟩ := (hl.add (t := 3) (hl.add (t := 5) (hl.add (t := 7) (hl.add (t := 8) (hl.add (t := 9) (hl.add (t := 14) (hl.add (t := 17) (hl.add (t := 39) (hl.add (t := 40) (hl.add (t := 41) (hl.nil) rfl) rfl) rfl) rfl) rfl) rfl) rfl) rfl) rfl) rfl).name
                    obtain ⟨HS1, hHS1, hh2⟩ := hh.name (keeps_cons (b := k7) (o' := C (arrL 4096 (uIn s.1.f xx 0)) 62) (by repeat (first | exact find_head | apply find_tail)) (by first | exact uIn_zero _ _ | rfl) (keeps_nil))
                    refine c_loop (α := Nat) (fun i => sx - i) (fun i a w => (i ≤ sx) ∧ Sl 155 ([(18, .int .i64 i)] ++ KS1) a ∧ Has _ w0 ([(k7, C (arrL 4096 (uIn s.1.f xx i)) 62)] ++ HS1) w) 0 ⟨(by omega), hl.addE (t := 18) (hk) rfl (by first | rfl), hh2⟩ ?_
                    clear hk hh2 hl hh a w
                    intro i a w hI
                    obtain ⟨hi2, hl, hh⟩ := hI
                    subst hKS1; subst hHS1
                    simp only [List.cons_append, List.nil_append, List.append_nil] at hl hh
                    refine c_seq ?_
                    refine c_seq ?_
                    refine c_region ?_
                    refine wl (wl_val hl rfl trivial (r_move hl rfl) ?_)
                    clear hl a; intro a hl
                    refine wl (wl_val hl rfl trivial (r_move hl rfl) ?_)
                    clear hl a; intro a hl
                    refine wl (wl_val hl rfl trivial (r_lss hl rfl rfl) ?_)
                    clear hl a; intro a hl
                    refine w_nil ?_
                    have hl2 := hl.add (t := 3) (hl.add (t := 5) (hl.add (t := 7) (hl.add (t := 8) (hl.add (t := 9) (hl.add (t := 14) (hl.add (t := 17) (hl.add (t := 18) (hl.add (t := 39) (hl.add (t := 40) (hl.add (t := 41) (hl.add (t := 118) (hl.nil) rfl) rfl) rfl) rfl) rfl) rfl) rfl) rfl) rfl) rfl) rfl) rfl; clear hl; have hl := hl2; clear hl2
                    refine then_normal ?_
                    refine c_cond hl rfl ?_ ?_
                    · intro hc7
                      try simp only [decide_eq_true_eq, decide_eq_false_iff_not, Bool.not_eq_true', Bool.not_eq_false', Bool.not_eq_true, Bool.not_eq_false, Bool.and_eq_true, Bool.or_eq_true, Bool.and_eq_false_iff, Bool.or_eq_false_iff, Bool.not_not, ne_eq, Int.not_lt, Int.not_le, Decidable.not_not, beq_iff_eq, bne_iff_ne] at hc7
                      refine wp_skip ?_
                      refine then_normal ?_
                      refine c_seq ?_
                      refine wp_block ?_
                      refine c_region ?_
                      refine wl (wl_val hl rfl trivial (r_move hl rfl) ?_)
                      clear hl a; intro a hl
                      refine wl (w_call hl hh rfl trivial rfl cal27 rfl (refAddr_spec r0) (by repeat (first | exact keeps_nil | apply keeps_cons (by repeat (first | exact find_head | apply find_tail)) (by first  | rfl) | exact keeps_self | apply keeps_mv)) trivial ?_)
                      clear hl hh a w; intro vc Fc a w hR hl hh
                      obtain ⟨rfl, rfl⟩ := hR
                      try simp only [List.cons_append, List.nil_append] at hh
                      rw [hmod] at hl
                      first | refine wl (wl_val hl rfl trivial (r_conv hl rfl Try.underlying34 Try.underlying3 (by simp only [Fits]; omega)) ?_) | refine wl (wl_val hl rfl trivial (r_convW hl rfl Try.underlying34 Try.underlying3) ?_)
                      clear hl a; intro a hl
                      refine wl (wl_val hl rfl trivial (r_move hl rfl) ?_)
                      clear hl a; intro a hl
                      first | refine wl (wl_val hl rfl trivial (r_add hl rfl rfl (by simp only [Fits]; omega)) ?_) | refine wl (wl_val hl rfl trivial (r_addW hl rfl rfl) ?_)
                      clear hl a; intro a hl
                      refine wl (wl_val hl rfl trivial (r_indexA hl rfl rfl arr62 (by omega) (by omega) (by first | (simp only [Int.reduceToNat]; rfl) | exact toNat_add1 _ | exact toNat_add2 _ _ | exact toNat_emod _ _ | exact Int.toNat_natCast _ | rfl)) ?_)
                      clear hl a; intro a hl
                      refine wl (w_store hl hh trivial one4 rfl rfl (by repeat (first | exact find_head | apply find_tail)) (by rw [arrL_length]; omega) (by first | rfl | (apply Row.one; assumption)) (by exact arr_store (by omega)) ?_)
                      clear hh w; intro w hh
                      refine w_nil ?_
                      have hl2 := hl.add (t := 3) (hl.add (t := 5) (hl.add (t := 7) (hl.add (t := 8) (hl.add (t := 9) (hl.add (t := 14) (hl.add (t := 17) (hl.add (t := 18) (hl.add (t := 39) (hl.add (t := 40) (hl.add (t := 41) (hl.nil) rfl) rfl) rfl) rfl) rfl) rfl) rfl) rfl) rfl) rfl) rfl; clear hl; have hl := hl2; clear hl2
                      refine blk_normal ?_
                      refine then_normal ?_
                      refine c_region ?_
                      refine wl (wl_val hl rfl trivial (r_move hl rfl) ?_)
                      clear hl a; intro a hl
                      first | refine wl (wl_val hl rfl trivial (r_add hl rfl rfl (by simp only [Fits]; omega)) ?_) | refine wl (wl_val hl rfl trivial (r_addW hl rfl rfl) ?_)
                      clear hl a; intro a hl
                      refine wl (wl_val hl rfl trivial (r_assign hl rfl) ?_)
                      clear hl a; intro a hl
                      refine w_nil ?_
                      have hl2 := hl.add (t := 3) (hl.add (t := 5) (hl.add (t := 7) (hl.add (t := 8) (hl.add (t := 9) (hl.add (t := 14) (hl.add (t := 17) (hl.add (t := 18) (hl.add (t := 39) (hl.add (t := 40) (hl.add (t := 41) (hl.nil) rfl) rfl) rfl) rfl) rfl) rfl) rfl) rfl) rfl) rfl) rfl; clear hl; have hl := hl2; clear hl2
                      refine then_normal ?_
                      refine ⟨i + 1, (by omega), (by omega), hl.addE (t := 18) (hl.addE (t := 3) (hl.addE (t := 5) (hl.addE (t := 7) (hl.addE (t := 8) (hl.addE (t := 9) (hl.addE (t := 14) (hl.addE (t := 17) (hl.addE (t := 39) (hl.addE (t := 40) (hl.addE (t := 41) (hl.nil) rfl (by first | rfl | rfl)) rfl (by first | rfl | rfl)) rfl (by first | rfl | rfl)) rfl (by first | rfl | rfl)) rfl (by first | rfl | rfl)) rfl (by first | rfl | rfl)) rfl (by first | rfl | rfl)) rfl (by first | rfl | rfl)) rfl (by first | rfl | rfl)) rfl (by first | rfl | rfl)) rfl (by first | rfl | rfl), hh.keep (by repeat (first | exact keeps_nil | apply keeps_cons (by repeat (first | exact find_head | apply find_tail)) (by first  | exact uIn_succ _ _ _ | rfl) | exact keeps_self | apply keeps_mv))⟩
                    · intro hc7
                      try simp only [decide_eq_true_eq, decide_eq_false_iff_not, Bool.not_eq_true', Bool.not_eq_false', Bool.not_eq_true, Bool.not_eq_false, Bool.and_eq_true, Bool.or_eq_true, Bool.and_eq_false_iff, Bool.or_eq_false_iff, Bool.not_not, ne_eq, Int.not_lt, Int.not_le, Decidable.not_not, beq_iff_eq, bne_iff_ne] at hc7
                      refine wp_exit ?_
                      refine then_exit ?_
                      refine then_exit ?_
                      refine blk_exit ?_
                      refine blk_normal ?_
                      refine blk_normal ?_
                      refine then_normal ?_
                      refine c_region ?_
                      first | refine wl (wl_val hl rfl trivial (r_add hl rfl rfl (by simp only [Fits]; omega)) ?_) | refine wl (wl_val hl rfl trivial (r_addW hl rfl rfl) ?_)
                      clear hl a; intro a hl
                      refine wl (wl_val hl rfl trivial (r_move hl rfl) ?_)
                      clear hl a; intro a hl
                      refine w_nil ?_
                      have hl2 := hl.add (t := 3) (hl.add (t := 5) (hl.add (t := 7) (hl.add (t := 8) (hl.add (t := 9) (hl.add (t := 39) (hl.add (t := 40) (hl.add (t := 41) (hl.nil) rfl) rfl) rfl) rfl) rfl) rfl) rfl) rfl; clear hl; have hl := hl2; clear hl2
                      refine then_normal ?_
                      refine ⟨(⟨s.1.i + 1, (doF s.1.f ⟨kd2, x2, A2, B2, E2, D2⟩).f, fl2, keepF s.1.rs ⟨kd2, x2, A2, B2, E2, D2⟩ (doF s.1.f ⟨kd2, x2, A2, B2, E2, D2⟩).ans, rv2, E3⟩, l2), (by dsimp only; omega), ⟨hI.next hi hok hI2 hR2, hN⟩, hl.addE (t := 41) (hl.addE (t := 3) (hl.addE (t := 5) (hl.addE (t := 7) (hl.addE (t := 8) (hl.addE (t := 9) (hl.addE (t := 39) (hl.addE (t := 40) (hl.nil) rfl (by first | rfl | rfl)) rfl (by first | rfl | rfl)) rfl (by first | rfl | rfl)) rfl (by first | rfl | rfl)) rfl (by first | rfl | rfl)) rfl (by first | rfl | rfl)) rfl (by first | rfl | rfl)) rfl (by first | rfl | rfl), (by simp only [List.cons_append, List.nil_append, List.append_nil]; exact hh.keep (by repeat (first | exact keeps_nil | apply keeps_cons (by repeat (first | exact find_head | apply find_tail)) (by first  | (rw [hla]; done) | (rw [hlb]; done) | exact uIn_all hIx hOk (by omega) | exact uV_same hfr | rfl) | exact keeps_self | apply keeps_mv)))⟩
                  · intro hc6
                    try simp only [decide_eq_true_eq, decide_eq_false_iff_not, Bool.not_eq_true', Bool.not_eq_false', Bool.not_eq_true, Bool.not_eq_false, Bool.and_eq_true, Bool.or_eq_true, Bool.and_eq_false_iff, Bool.or_eq_false_iff, Bool.not_not, ne_eq, Int.not_lt, Int.not_le, Decidable.not_not, beq_iff_eq, bne_iff_ne] at hc6
                    have hp2 := hJ.carve hOk hr0 hIx hI2 (by omega)
                    obtain ⟨l2, hl2⟩ : ∃ l2 : List (Int × Value) × List (Int × Value), l2 = (mput s.2.1 (r0 : Int) (.int .i64 sx), s.2.2) := ⟨_, rfl⟩
                    have hla : l2.1 = ((mput s.2.1 (r0 : Int) (.int .i64 sx), s.2.2) : List (Int × Value) × List (Int × Value)).1 := by rw [hl2]
                    have hlb : l2.2 = ((mput s.2.1 (r0 : Int) (.int .i64 sx), s.2.2) : List (Int × Value) × List (Int × Value)).2 := by rw [hl2]
                    simp only at hla hlb
                    have hN : J8 G (doF s.1.f ⟨kd2, x2, A2, B2, E2, D2⟩).f fl2 (s.1.i + 1) l2 := by rw [hl2]; exact hp2
                    refine wp_skip ?_
                    refine then_normal ?_
                    refine c_seq ?_
                    refine c_region ?_
                    refine wl (wl_val hl rfl trivial (r_assign hl rfl) ?_)
                    clear hl a; intro a hl
                    refine w_nil ?_
                    have hl2 := hl.add (t := 3) (hl.add (t := 5) (hl.add (t := 7) (hl.add (t := 8) (hl.add (t := 9) (hl.add (t := 14) (hl.add (t := 17) (hl.add (t := 18) (hl.add (t := 39) (hl.add (t := 40) (hl.add (t := 41) (hl.nil) rfl) rfl) rfl) rfl) rfl) rfl) rfl) rfl) rfl) rfl) rfl; clear hl; have hl := hl2; clear hl2
                    refine then_normal ?_
                    refine wp_block ?_
                    obtain ⟨KS1, hKS1, hk⟩ := (hl.add (t := 3) (hl.add (t := 5) (hl.add (t := 7) (hl.add (t := 8) (hl.add (t := 9) (hl.add (t := 14) (hl.add (t := 17) (hl.add (t := 39) (hl.add (t := 40) (hl.add (t := 41) (hl.nil) rfl) rfl) rfl) rfl) rfl) rfl) rfl) rfl) rfl) rfl).name
                    obtain ⟨HS1, hHS1, hh2⟩ := hh.name (keeps_cons (b := k7) (o' := C (arrL 4096 (uIn s.1.f xx 0)) 62) (by repeat (first | exact find_head | apply find_tail)) (by first | exact uIn_zero _ _ | rfl) (keeps_nil))
                    refine c_loop (α := Nat) (fun i => sx - i) (fun i a w => (i ≤ sx) ∧ Sl 155 ([(18, .int .i64 i)] ++ KS1) a ∧ Has _ w0 ([(k7, C (arrL 4096 (uIn s.1.f xx i)) 62)] ++ HS1) w) 0 ⟨(by omega), hl.addE (t := 18) (hk) rfl (by first | rfl), hh2⟩ ?_
                    clear hk hh2 hl hh a w
                    intro i a w hI
                    obtain ⟨hi2, hl, hh⟩ := hI
                    subst hKS1; subst hHS1
                    simp only [List.cons_append, List.nil_append, List.append_nil] at hl hh
                    refine c_seq ?_
                    refine c_seq ?_
                    refine c_region ?_
                    refine wl (wl_val hl rfl trivial (r_move hl rfl) ?_)
                    clear hl a; intro a hl
                    refine wl (wl_val hl rfl trivial (r_move hl rfl) ?_)
                    clear hl a; intro a hl
                    refine wl (wl_val hl rfl trivial (r_lss hl rfl rfl) ?_)
                    clear hl a; intro a hl
                    refine w_nil ?_
                    have hl2 := hl.add (t := 3) (hl.add (t := 5) (hl.add (t := 7) (hl.add (t := 8) (hl.add (t := 9) (hl.add (t := 14) (hl.add (t := 17) (hl.add (t := 18) (hl.add (t := 39) (hl.add (t := 40) (hl.add (t := 41) (hl.add (t := 118) (hl.nil) rfl) rfl) rfl) rfl) rfl) rfl) rfl) rfl) rfl) rfl) rfl) rfl; clear hl; have hl := hl2; clear hl2
                    refine then_normal ?_
                    refine c_cond hl rfl ?_ ?_
                    · intro hc7
                      try simp only [decide_eq_true_eq, decide_eq_false_iff_not, Bool.not_eq_true', Bool.not_eq_false', Bool.not_eq_true, Bool.not_eq_false, Bool.and_eq_true, Bool.or_eq_true, Bool.and_eq_false_iff, Bool.or_eq_false_iff, Bool.not_not, ne_eq, Int.not_lt, Int.not_le, Decidable.not_not, beq_iff_eq, bne_iff_ne] at hc7
                      refine wp_skip ?_
                      refine then_normal ?_
                      refine c_seq ?_
                      refine wp_block ?_
                      refine c_region ?_
                      refine wl (wl_val hl rfl trivial (r_move hl rfl) ?_)
                      clear hl a; intro a hl
                      refine wl (w_call hl hh rfl trivial rfl cal27 rfl (refAddr_spec r0) (by repeat (first | exact keeps_nil | apply keeps_cons (by repeat (first | exact find_head | apply find_tail)) (by first  | rfl) | exact keeps_self | apply keeps_mv)) trivial ?_)
                      clear hl hh a w; intro vc Fc a w hR hl hh
                      obtain ⟨rfl, rfl⟩ := hR
                      try simp only [List.cons_append, List.nil_append] at hh
                      rw [hmod] at hl
                      first | refine wl (wl_val hl rfl trivial (r_conv hl rfl Try.underlying34 Try.underlying3 (by simp only [Fits]; omega)) ?_) | refine wl (wl_val hl rfl trivial (r_convW hl rfl Try.underlying34 Try.underlying3) ?_)
                      clear hl a; intro a hl
                      refine wl (wl_val hl rfl trivial (r_move hl rfl) ?_)
                      clear hl a; intro a hl
                      first | refine wl (wl_val hl rfl trivial (r_add hl rfl rfl (by simp only [Fits]; omega)) ?_) | refine wl (wl_val hl rfl trivial (r_addW hl rfl rfl) ?_)
                      clear hl a; intro a hl
                      refine wl (wl_val hl rfl trivial (r_indexA hl rfl rfl arr62 (by omega) (by omega) (by first | (simp only [Int.reduceToNat]; rfl) | exact toNat_add1 _ | exact toNat_add2 _ _ | exact toNat_emod _ _ | exact Int.toNat_natCast _ | rfl)) ?_)
                      clear hl a; intro a hl
                      refine wl (w_store hl hh trivial one4 rfl rfl (by repeat (first | exact find_head | apply find_tail)) (by rw [arrL_length]; omega) (by first | rfl | (apply Row.one; assumption)) (by exact arr_store (by omega)) ?_)
                      clear hh w; intro w hh
                      refine w_nil ?_
                      have hl2 := hl.add (t := 3) (hl.add (t := 5) (hl.add (t := 7) (hl.add (t := 8) (hl.add (t := 9) (hl.add (t := 14) (hl.add (t := 17) (hl.add (t := 18) (hl.add (t := 39) (hl.add (t := 40) (hl.add (t := 41) (hl.nil) rfl) rfl) rfl) rfl) rfl) rfl) rfl) rfl) rfl) rfl) rfl; clear hl; have hl := hl2; clear hl2
                      refine blk_normal ?_
                      refine then_normal ?_
                      refine c_region ?_
                      refine wl (wl_val hl rfl trivial (r_move hl rfl) ?_)
                      clear hl a; intro a hl
                      first | refine wl (wl_val hl rfl trivial (r_add hl rfl rfl (by simp only [Fits]; omega)) ?_) | refine wl (wl_val hl rfl trivial (r_addW hl rfl rfl) ?_)
                      clear hl a; intro a hl
                      refine wl (wl_val hl rfl trivial (r_assign hl rfl) ?_)
                      clear hl a; intro a hl
                      refine w_nil ?_
                      have hl2 := hl.add (t := 3) (hl.add (t := 5) (hl.add (t := 7) (hl.add (t := 8) (hl.add (t := 9) (hl.add (t := 14) (hl.add (t := 17) (hl.add (t := 18) (hl.add (t := 39) (hl.add (t := 40) (hl.add (t := 41) (hl.nil) rfl) rfl) rfl) rfl) rfl) rfl) rfl) rfl) rfl) rfl) rfl; clear hl; have hl := hl2; clear hl2
                      refine then_normal ?_
                      refine ⟨i + 1, (by omega), (by omega), hl.addE (t := 18) (hl.addE (t := 3) (hl.addE (t := 5) (hl.addE (t := 7) (hl.addE (t := 8) (hl.addE (t := 9) (hl.addE (t := 14) (hl.addE (t := 17) (hl.addE (t := 39) (hl.addE (t := 40) (hl.addE (t := 41) (hl.nil) rfl (by first | rfl | rfl)) rfl (by first | rfl | rfl)) rfl (by first | rfl | rfl)) rfl (by first | rfl | rfl)) rfl (by first | rfl | rfl)) rfl (by first | rfl | rfl)) rfl (by first | rfl | rfl)) rfl (by first | rfl | rfl)) rfl (by first | rfl | rfl)) rfl (by first | rfl | rfl)) rfl (by first | rfl | rfl), hh.keep (by repeat (first | exact keeps_nil | apply keeps_cons (by repeat (first | exact find_head | apply find_tail)) (by first  | exact uIn_succ _ _ _ | rfl) | exact keeps_self | apply keeps_mv))⟩
                    · intro hc7
                      try simp only [decide_eq_true_eq, decide_eq_false_iff_not, Bool.not_eq_true', Bool.not_eq_false', Bool.not_eq_true, Bool.not_eq_false, Bool.and_eq_true, Bool.or_eq_true, Bool.and_eq_false_iff, Bool.or_eq_false_iff, Bool.not_not, ne_eq, Int.not_lt, Int.not_le, Decidable.not_not, beq_iff_eq, bne_iff_ne] at hc7
                      refine wp_exit ?_
                      refine then_exit ?_
                      refine then_exit ?_
                      refine blk_exit ?_
                      refine blk_normal ?_
                      refine blk_normal ?_
                      refine then_normal ?_
                      refine c_region ?_
                      first | refine wl (wl_val hl rfl trivial (r_add hl rfl rfl (by simp only [Fits]; omega)) ?_) | refine wl (wl_val hl rfl trivial (r_addW hl rfl rfl) ?_)
                      clear hl a; intro a hl
                      refine wl (wl_val hl rfl trivial (r_move hl rfl) ?_)
                      clear hl a; intro a hl
                      refine w_nil ?_
                      have hl2 := hl.add (t := 3) (hl.add (t := 5) (hl.add (t := 7) (hl.add (t := 8) (hl.add (t := 9) (hl.add (t := 39) (hl.add (t := 40) (hl.add (t := 41) (hl.nil) rfl) rfl) rfl) rfl) rfl) rfl) rfl) rfl; clear hl; have hl := hl2; clear hl2
                      refine then_normal ?_
                      refine ⟨(⟨s.1.i + 1, (doF s.1.f ⟨kd2, x2, A2, B2, E2, D2⟩).f, fl2, keepF s.1.rs ⟨kd2, x2, A2, B2, E2, D2⟩ (doF s.1.f ⟨kd2, x2, A2, B2, E2, D2⟩).ans, rv2, E3⟩, l2), (by dsimp only; omega), ⟨hI.next hi hok hI2 hR2, hN⟩, hl.addE (t := 41) (hl.addE (t := 3) (hl.addE (t := 5) (hl.addE (t := 7) (hl.addE (t := 8) (hl.addE (t := 9) (hl.addE (t := 39) (hl.addE (t := 40) (hl.nil) rfl (by first | rfl | rfl)) rfl (by first | rfl | rfl)) rfl (by first | rfl | rfl)) rfl (by first | rfl | rfl)) rfl (by first | rfl | rfl)) rfl (by first | rfl | rfl)) rfl (by first | rfl | rfl)) rfl (by first | rfl | rfl), (by simp only [List.cons_append, List.nil_append, List.append_nil]; exact hh.keep (by repeat (first | exact keeps_nil | apply keeps_cons (by repeat (first | exact find_head | apply find_tail)) (by first  | (rw [hla]; done) | (rw [hlb]; done) | exact uIn_all hIx hOk (by omega) | exact uV_same hfr | rfl) | exact keeps_self | apply keeps_mv)))⟩
                · intro hc5
                  try simp only [decide_eq_true_eq, decide_eq_false_iff_not, Bool.not_eq_true', Bool.not_eq_false', Bool.not_eq_true, Bool.not_eq_false, Bool.and_eq_true, Bool.or_eq_true, Bool.and_eq_false_iff, Bool.or_eq_false_iff, Bool.not_not, ne_eq, Int.not_lt, Int.not_le, Decidable.not_not, beq_iff_eq, bne_iff_ne] at hc5
                  obtain ⟨ht4, hl0, hnf⟩ := (doF_lawful s.1.f ⟨kd2, x2, A2, B2, E2, D2⟩ (by simp only; omega) (by simp only; omega) (by simp only; omega)).resolve_left (by rw [hr]; simp only; omega)
                  rw [hr] at ht4
                  simp only at ht4 hl0 hnf
                  rw [← hsx] at hl0 hnf
                  obtain ⟨hf, ha⟩ := doF_refuse s.1.f ⟨kd2, x2, A2, B2, E2, D2⟩ (by rw [hr]; simp only; omega)
                  rw [hr] at ha
                  injection ha with _ e1 e2 e3
                  subst e1; subst e2; subst e3; subst ht4
                  have hlw := (hJ.at_ (s := sx) (by omega) (by omega) (by omega)).1
                  rw [hI.inv.empty (by omega) hl0] at hlw
                  simp only [List.length_nil] at hlw
                  obtain ⟨xf, hxf, hxf1, hxf2, _⟩ := hI.inv.fr
                  have hbt := hJ.bt
                  have hsm := (show SameBut s.1.f (doF s.1.f ⟨kd2, x2, A2, B2, E2, D2⟩).f from by rw [hf]; exact SameBut.refl _)
                  have hfr := hsm.fresh
                  obtain ⟨l2, hl2⟩ : ∃ l2, l2 = s.2 := ⟨_, rfl⟩
                  have hla : l2.1 = s.2.1 := by rw [hl2]
                  have hlb : l2.2 = s.2.2 := by rw [hl2]
                  have hN : J8 G (doF s.1.f ⟨kd2, x2, A2, B2, E2, D2⟩).f fl2 (s.1.i + 1) l2 := by rw [hl2]; exact hJ.same hsm hI.inv hI2
                  refine c_seq ?_
                  refine c_region ?_
                  refine wl (wl_val hl rfl trivial (r_eql hl rfl rfl) ?_)
                  clear hl a; intro a hl
                  refine wl (wl_val hl rfl trivial (r_assign hl rfl) ?_)
                  clear hl a; intro a hl
                  refine w_nil ?_
                  have hl2 := hl.add (t := 3) (hl.add (t := 5) (hl.add (t := 7) (hl.add (t := 8) (hl.add (t := 9) (hl.add (t := 14) (hl.add (t := 15) (hl.add (t := 16) (hl.add (t := 39) (hl.add (t := 40) (hl.add (t := 41) (hl.add (t := 127) (hl.nil) rfl) rfl) rfl) rfl) rfl) rfl) rfl) rfl) rfl) rfl) rfl) rfl; clear hl; have hl := hl2; clear hl2
                  refine then_normal ?_
                  refine c_cond hl rfl ?_ ?_
                  · intro hc8
                    try simp only [decide_eq_true_eq, decide_eq_false_iff_not, Bool.not_eq_true', Bool.not_eq_false', Bool.not_eq_true, Bool.not_eq_false, Bool.and_eq_true, Bool.or_eq_true, Bool.and_eq_false_iff, Bool.or_eq_false_iff, Bool.not_not, ne_eq, Int.not_lt, Int.not_le, Decidable.not_not, beq_iff_eq, bne_iff_ne] at hc8
                    refine c_seq ?_
                    refine c_seq ?_
                    refine c_region ?_
                    refine wl (wl_val hl rfl trivial (r_move hl rfl) ?_)
                    clear hl a; intro a hl
                    refine wl (wl_val hl rfl trivial (r_nilCheck hl rfl) ?_)
                    clear hl a; intro a hl
                    refine wl (wl_val hl rfl trivial (r_field hl rfl fld41_0) ?_)
                    clear hl a; intro a hl
                    refine wl (w_load hl hh rfl trivial one38 rfl (by repeat (first | exact find_head | apply find_tail)) (by first | rfl) ?_)
                    clear hl a; intro a hl
                    refine wl (wl_val hl rfl trivial (r_move hl rfl) ?_)
                    clear hl a; intro a hl
                    refine wl (w_call hl hh rfl trivial rfl cal26 rfl (equal_spec b kc (doF s.1.f ⟨kd2, x2, A2, B2, E2, D2⟩).f s.1.f (hI2.wf (by omega)) (hI.inv.wf (by omega))) (by repeat (first | exact keeps_nil | apply keeps_cons (by repeat (first | exact find_head | apply find_tail)) (by first  | rfl) | exact keeps_self | apply keeps_mv)) trivial ?_)
                    clear hl hh a w; intro vc Fc a w hR hl hh
                    obtain ⟨rfl, rfl⟩ := hR
                    try simp only [List.cons_append, List.nil_append] at hh
                    rw [show same (doF s.1.f ⟨kd2, x2, A2, B2, E2, D2⟩).f s.1.f = true from by rw [hf]; exact same_self _] at hl
                    refine wl (wl_val hl rfl trivial (r_not hl rfl) ?_)
                    clear hl a; intro a hl
                    refine wl (wl_val hl rfl trivial (r_move hl rfl) ?_)
                    clear hl a; intro a hl
                    refine sl_split (t := 136) hl rfl ?_ ?_
                    · intro hg10; clear hl; intro hl
                      try simp only [decide_eq_true_eq, decide_eq_false_iff_not, Bool.not_eq_true', Bool.not_eq_false', Bool.not_eq_true, Bool.not_eq_false, Bool.and_eq_true, Bool.or_eq_true, Bool.and_eq_false_iff, Bool.or_eq_false_iff, Bool.not_not, ne_eq, Int.not_lt, Int.not_le, Decidable.not_not, beq_iff_eq, bne_iff_ne] at hg10
                      exfalso; first | omega | (simp at *; done) | (simp at *; omega)
                    · intro hg10; clear hl; intro hl
                      try simp only [decide_eq_true_eq, decide_eq_false_iff_not, Bool.not_eq_true', Bool.not_eq_false', Bool.not_eq_true, Bool.not_eq_false, Bool.and_eq_true, Bool.or_eq_true, Bool.and_eq_false_iff, Bool.or_eq_false_iff, Bool.not_not, ne_eq, Int.not_lt, Int.not_le, Decidable.not_not, beq_iff_eq, bne_iff_ne] at hg10
                      first | refine wl (w_loadA hl hh rfl ⟨_, _, rfl, rfl, rfl⟩ agg44 rfl (by repeat (first | exact find_head | apply find_tail)) (by first | (simp only [List.getElem?_cons_zero, List.getElem?_cons_succ, Value.cells, List.take_zero, List.take_succ_cons, List.take_nil, List.drop_zero, List.drop_succ_cons, List.drop_nil, List.length_cons, List.length_nil, List.cons_append, List.nil_append, List.append_nil, Nat.zero_add, Nat.add_zero, Nat.reduceAdd, Nat.reduceBEq, Nat.reduceEqDiff, Nat.ble, BEq.rfl, Bool.and_true, Bool.and_self, cond_true, beq_self_eq_true]; rfl)) (by first | rfl | (simp; done)) ?_) | refine wl (w_loadRA hl hh rfl ⟨_, _, rfl, rfl, rfl⟩ agg44 rfl hm (by simp) hqv rfl ?_)
                      clear hl a; intro a hl
                      refine wl (wl_val hl rfl ⟨_, _, rfl, rfl, rfl⟩ (r_build hl rfl zero44 bld44 (by simp only [fillL, setL, List.getElem?_cons_zero, List.getElem?_cons_succ, Value.cells, List.take_zero, List.take_succ_cons, List.take_nil, List.drop_zero, List.drop_succ_cons, List.drop_nil, List.length_cons, List.length_nil, List.cons_append, List.nil_append, List.append_nil, Nat.zero_add, Nat.add_zero, Nat.reduceAdd, Nat.reduceBEq, Nat.reduceEqDiff, Nat.ble, BEq.rfl, Bool.and_true, Bool.and_self, cond_true, beq_self_eq_true]; rfl)) ?_)
                      clear hl a; intro a hl
                      refine wl (wl_val hl rfl ⟨_, _, rfl, rfl, rfl⟩ (r_neqA hl rfl rfl eqf44 shp44 (by simp only [unlitL, unlit]; rfl) (by simp only [unlitL, unlit]; rfl) (by first | exact ⟨trivial⟩ | (refine ⟨?_⟩; simp [LitsOk, litOk, Fits]; done) | (refine ⟨?_⟩; simp [LitsOk, litOk, Fits]; omega)) (by first | exact ⟨trivial⟩ | (refine ⟨?_⟩; simp [LitsOk, litOk, Fits]; done) | (refine ⟨?_⟩; simp [LitsOk, litOk, Fits]; omega))) ?_)
                      clear hl a; intro a hl
                      refine wl (wl_val hl rfl trivial (r_pickF hl rfl rfl) ?_)
                      clear hl a; intro a hl
                      refine w_nil ?_
                      have hl2 := hl.add (t := 3) (hl.add (t := 5) (hl.add (t := 7) (hl.add (t := 8) (hl.add (t := 9) (hl.add (t := 14) (hl.add (t := 39) (hl.add (t := 40) (hl.add (t := 41) (hl.add (t := 140) (hl.nil) rfl) rfl) rfl) rfl) rfl) rfl) rfl) rfl) rfl) rfl; clear hl; have hl := hl2; clear hl2
                      refine then_normal ?_
                      refine c_cond hl rfl ?_ ?_
                      · intro hc9
                        try simp only [decide_eq_true_eq, decide_eq_false_iff_not, Bool.not_eq_true', Bool.not_eq_false', Bool.not_eq_true, Bool.not_eq_false, Bool.and_eq_true, Bool.or_eq_true, Bool.and_eq_false_iff, Bool.or_eq_false_iff, Bool.not_not, ne_eq, Int.not_lt, Int.not_le, Decidable.not_not, beq_iff_eq, bne_iff_ne] at hc9
                        exfalso; simp [eqLits, litBeq] at hc9
                      · intro hc9
                        try simp only [decide_eq_true_eq, decide_eq_false_iff_not, Bool.not_eq_true', Bool.not_eq_false', Bool.not_eq_true, Bool.not_eq_false, Bool.and_eq_true, Bool.or_eq_true, Bool.and_eq_false_iff, Bool.or_eq_false_iff, Bool.not_not, ne_eq, Int.not_lt, Int.not_le, Decidable.not_not, beq_iff_eq, bne_iff_ne] at hc9
                        refine wp_skip ?_
                        refine then_normal ?_
                        refine c_seq ?_
                        refine c_region ?_
                        refine wl (wl_val hl rfl trivial (r_move hl rfl) ?_)
                        clear hl a; intro a hl
                        refine wl (wl_val hl rfl trivial (r_move hl rfl) ?_)
                        clear hl a; intro a hl
                        refine wl (w_lookup (keyInt Try.underlying3) Try.underlying69 zero3 hl hh rfl trivial rfl rfl (by repeat (first | exact find_head | apply find_tail)) ?_)
                        clear hl a; intro a hl
                        rw [hlw] at hl
                        refine wl (wl_val hl rfl trivial (r_gtr hl rfl rfl) ?_)
                        clear hl a; intro a hl
                        refine wl (wl_val hl rfl trivial (r_move hl rfl) ?_)
                        clear hl a; intro a hl
                        refine sl_split (t := 145) hl rfl ?_ ?_
                        · intro hg11; clear hl; intro hl
                          try simp only [decide_eq_true_eq, decide_eq_false_iff_not, Bool.not_eq_true', Bool.not_eq_false', Bool.not_eq_true, Bool.not_eq_false, Bool.and_eq_true, Bool.or_eq_true, Bool.and_eq_false_iff, Bool.or_eq_false_iff, Bool.not_not, ne_eq, Int.not_lt, Int.not_le, Decidable.not_not, beq_iff_eq, bne_iff_ne] at hg11
                          exfalso; first | omega | (simp at *; done) | (simp at *; omega)
                        · intro hg11; clear hl; intro hl
                          try simp only [decide_eq_true_eq, decide_eq_false_iff_not, Bool.not_eq_true', Bool.not_eq_false', Bool.not_eq_true, Bool.not_eq_false, Bool.and_eq_true, Bool.or_eq_true, Bool.and_eq_false_iff, Bool.or_eq_false_iff, Bool.not_not, ne_eq, Int.not_lt, Int.not_le, Decidable.not_not, beq_iff_eq, bne_iff_ne] at hg11
                          refine wl (wl_val hl rfl ⟨_, _, rfl, rfl, rfl⟩ (r_move hl rfl) ?_)
                          clear hl a; intro a hl
                          refine wl (wl_val hl rfl ⟨_, _, rfl, rfl, rfl⟩ (r_lss hl rfl rfl) ?_)
                          clear hl a; intro a hl
                          refine wl (wl_val hl rfl ⟨_, _, rfl, rfl, rfl⟩ (r_move hl rfl) ?_)
                          clear hl a; intro a hl
                          refine sl_split (t := 148) hl rfl ?_ ?_
                          · intro hg12; clear hl; intro hl
                            try simp only [decide_eq_true_eq, decide_eq_false_iff_not, Bool.not_eq_true', Bool.not_eq_false', Bool.not_eq_true, Bool.not_eq_false, Bool.and_eq_true, Bool.or_eq_true, Bool.and_eq_false_iff, Bool.or_eq_false_iff, Bool.not_not, ne_eq, Int.not_lt, Int.not_le, Decidable.not_not, beq_iff_eq, bne_iff_ne] at hg12
                            refine wl (w_call hl hh rfl ⟨_, _, rfl, rfl, rfl⟩ rfl cal32 rfl (longest_spec k7 s.1.f xf hxf (by omega)) (by repeat (first | exact keeps_nil | apply keeps_cons (by repeat (first | exact find_head | apply find_tail)) (by first  | rfl) | exact keeps_self | apply keeps_mv)) trivial ?_)
                            clear hl hh a w; intro vc Fc a w hR hl hh
                            obtain ⟨rfl, rfl⟩ := hR
                            try simp only [List.cons_append, List.nil_append] at hh
                            refine wl (wl_val hl rfl ⟨_, _, rfl, rfl, rfl⟩ (r_move hl rfl) ?_)
                            clear hl a; intro a hl
                            refine wl (wl_val hl rfl ⟨_, _, rfl, rfl, rfl⟩ (r_geq hl rfl rfl) ?_)
                            clear hl a; intro a hl
                            refine wl (wl_val hl rfl ⟨_, _, rfl, rfl, rfl⟩ (r_pickT hl rfl rfl) ?_)
                            clear hl a; intro a hl
                            refine wl (wl_val hl rfl trivial (r_pickF hl rfl rfl) ?_)
                            clear hl a; intro a hl
                            refine w_nil ?_
                            have hl2 := hl.add (t := 3) (hl.add (t := 5) (hl.add (t := 7) (hl.add (t := 8) (hl.add (t := 9) (hl.add (t := 39) (hl.add (t := 40) (hl.add (t := 41) (hl.add (t := 153) (hl.nil) rfl) rfl) rfl) rfl) rfl) rfl) rfl) rfl) rfl; clear hl; have hl := hl2; clear hl2
                            refine then_normal ?_
                            refine c_cond hl rfl ?_ ?_
                            · intro hc10
                              try simp only [decide_eq_true_eq, decide_eq_false_iff_not, Bool.not_eq_true', Bool.not_eq_false', Bool.not_eq_true, Bool.not_eq_false, Bool.and_eq_true, Bool.or_eq_true, Bool.and_eq_false_iff, Bool.or_eq_false_iff, Bool.not_not, ne_eq, Int.not_lt, Int.not_le, Decidable.not_not, beq_iff_eq, bne_iff_ne] at hc10
                              exfalso; first | omega | (simp at *; done) | (simp at *; omega)
                            · intro hc10
                              try simp only [decide_eq_true_eq, decide_eq_false_iff_not, Bool.not_eq_true', Bool.not_eq_false', Bool.not_eq_true, Bool.not_eq_false, Bool.and_eq_true, Bool.or_eq_true, Bool.and_eq_false_iff, Bool.or_eq_false_iff, Bool.not_not, ne_eq, Int.not_lt, Int.not_le, Decidable.not_not, beq_iff_eq, bne_iff_ne] at hc10
                              refine wp_skip ?_
                              refine blk_normal ?_
                              refine blk_normal ?_
                              refine then_normal ?_
                              refine c_region ?_
                              first | refine wl (wl_val hl rfl trivial (r_add hl rfl rfl (by simp only [Fits]; omega)) ?_) | refine wl (wl_val hl rfl trivial (r_addW hl rfl rfl) ?_)
                              clear hl a; intro a hl
                              refine wl (wl_val hl rfl trivial (r_move hl rfl) ?_)
                              clear hl a; intro a hl
                              refine w_nil ?_
                              have hl2 := hl.add (t := 3) (hl.add (t := 5) (hl.add (t := 7) (hl.add (t := 8) (hl.add (t := 9) (hl.add (t := 39) (hl.add (t := 40) (hl.add (t := 41) (hl.nil) rfl) rfl) rfl) rfl) rfl) rfl) rfl) rfl; clear hl; have hl := hl2; clear hl2
                              refine then_normal ?_
                              refine ⟨(⟨s.1.i + 1, (doF s.1.f ⟨kd2, x2, A2, B2, E2, D2⟩).f, fl2, keepF s.1.rs ⟨kd2, x2, A2, B2, E2, D2⟩ (doF s.1.f ⟨kd2, x2, A2, B2, E2, D2⟩).ans, rv2, E3⟩, l2), (by dsimp only; omega), ⟨hI.next hi hok hI2 hR2, hN⟩, hl.addE (t := 41) (hl.addE (t := 3) (hl.addE (t := 5) (hl.addE (t := 7) (hl.addE (t := 8) (hl.addE (t := 9) (hl.addE (t := 39) (hl.addE (t := 40) (hl.nil) rfl (by first | rfl | rfl)) rfl (by first | rfl | rfl)) rfl (by first | rfl | rfl)) rfl (by first | rfl | rfl)) rfl (by first | rfl | rfl)) rfl (by first | rfl | rfl)) rfl (by first | rfl | rfl)) rfl (by first | rfl | rfl), (by simp only [List.cons_append, List.nil_append, List.append_nil]; exact hh.keep (by repeat (first | exact keeps_nil | apply keeps_cons (by repeat (first | exact find_head | apply find_tail)) (by first  | (rw [hla]; done) | (rw [hlb]; done) | exact uIn_all hIx hOk (by omega) | exact uV_same hfr | rfl) | exact keeps_self | apply keeps_mv)))⟩
                          · intro hg12; clear hl; intro hl
                            try simp only [decide_eq_true_eq, decide_eq_false_iff_not, Bool.not_eq_true', Bool.not_eq_false', Bool.not_eq_true, Bool.not_eq_false, Bool.and_eq_true, Bool.or_eq_true, Bool.and_eq_false_iff, Bool.or_eq_false_iff, Bool.not_not, ne_eq, Int.not_lt, Int.not_le, Decidable.not_not, beq_iff_eq, bne_iff_ne] at hg12
                            refine wl (wl_skip hl rfl ⟨_, _, rfl, rfl, rfl⟩ ?_)
                            clear hl a; intro a hl
                            refine wl (wl_skip hl rfl ⟨_, _, rfl, rfl, rfl⟩ ?_)
                            clear hl a; intro a hl
                            refine wl (wl_skip hl rfl ⟨_, _, rfl, rfl, rfl⟩ ?_)
                            clear hl a; intro a hl
                            refine wl (wl_val hl rfl ⟨_, _, rfl, rfl, rfl⟩ (r_pickF hl rfl rfl) ?_)
                            clear hl a; intro a hl
                            refine wl (wl_val hl rfl trivial (r_pickF hl rfl rfl) ?_)
                            clear hl a; intro a hl
                            refine w_nil ?_
                            have hl2 := hl.add (t := 3) (hl.add (t := 5) (hl.add (t := 7) (hl.add (t := 8) (hl.add (t := 9) (hl.add (t := 39) (hl.add (t := 40) (hl.add (t := 41) (hl.add (t := 153) (hl.nil) rfl) rfl) rfl) rfl) rfl) rfl) rfl) rfl) rfl; clear hl; have hl := hl2; clear hl2
                            refine then_normal ?_
                            refine c_condF hl rfl ?_
                            refine wp_skip ?_
                            refine blk_normal ?_
                            refine blk_normal ?_
                            refine then_normal ?_
                            refine c_region ?_
                            first | refine wl (wl_val hl rfl trivial (r_add hl rfl rfl (by simp only [Fits]; omega)) ?_) | refine wl (wl_val hl rfl trivial (r_addW hl rfl rfl) ?_)
                            clear hl a; intro a hl
                            refine wl (wl_val hl rfl trivial (r_move hl rfl) ?_)
                            clear hl a; intro a hl
                            refine w_nil ?_
                            have hl2 := hl.add (t := 3) (hl.add (t := 5) (hl.add (t := 7) (hl.add (t := 8) (hl.add (t := 9) (hl.add (t := 39) (hl.add (t := 40) (hl.add (t := 41) (hl.nil) rfl) rfl) rfl) rfl) rfl) rfl) rfl) rfl; clear hl; have hl := hl2; clear hl2
                            refine then_normal ?_
                            refine ⟨(⟨s.1.i + 1, (doF s.1.f ⟨kd2, x2, A2, B2, E2, D2⟩).f, fl2, keepF s.1.rs ⟨kd2, x2, A2, B2, E2, D2⟩ (doF s.1.f ⟨kd2, x2, A2, B2, E2, D2⟩).ans, rv2, E3⟩, l2), (by dsimp only; omega), ⟨hI.next hi hok hI2 hR2, hN⟩, hl.addE (t := 41) (hl.addE (t := 3) (hl.addE (t := 5) (hl.addE (t := 7) (hl.addE (t := 8) (hl.addE (t := 9) (hl.addE (t := 39) (hl.addE (t := 40) (hl.nil) rfl (by first | rfl | rfl)) rfl (by first | rfl | rfl)) rfl (by first | rfl | rfl)) rfl (by first | rfl | rfl)) rfl (by first | rfl | rfl)) rfl (by first | rfl | rfl)) rfl (by first | rfl | rfl)) rfl (by first | rfl | rfl), (by simp only [List.cons_append, List.nil_append, List.append_nil]; exact hh.keep (by repeat (first | exact keeps_nil | apply keeps_cons (by repeat (first | exact find_head | apply find_tail)) (by first  | (rw [hla]; done) | (rw [hlb]; done) | exact uIn_all hIx hOk (by omega) | exact uV_same hfr | rfl) | exact keeps_self | apply keeps_mv)))⟩
                  · intro hc8
                    try simp only [decide_eq_true_eq, decide_eq_false_iff_not, Bool.not_eq_true', Bool.not_eq_false', Bool.not_eq_true, Bool.not_eq_false, Bool.and_eq_true, Bool.or_eq_true, Bool.and_eq_false_iff, Bool.or_eq_false_iff, Bool.not_not, ne_eq, Int.not_lt, Int.not_le, Decidable.not_not, beq_iff_eq, bne_iff_ne] at hc8
                    exfalso; first | omega | (simp at *; done) | (simp at *; omega)
    · intro hc1
      try simp only [decide_eq_true_eq, decide_eq_false_iff_not, Bool.not_eq_true', Bool.not_eq_false', Bool.not_eq_true, Bool.not_eq_false, Bool.and_eq_true, Bool.or_eq_true, Bool.and_eq_false_iff, Bool.or_eq_false_iff, Bool.not_not, ne_eq, Int.not_lt, Int.not_le, Decidable.not_not, beq_iff_eq, bne_iff_ne] at hc1
      refine wp_exit ?_
      refine then_exit ?_
      refine then_exit ?_
      refine blk_exit ?_
      refine then_normal ?_
      refine c_seq ?_
      refine c_region ?_
      refine wl (wl_val hl rfl trivial (r_assign hl rfl) ?_)
      clear hl a; intro a hl
      refine w_nil ?_
      have hl2 := hl.add (t := 2) (hl.nil) rfl; clear hl; have hl := hl2; clear hl2
      refine then_normal ?_
      refine wp_ret ?_
      refine f_ret1 (F' := []) hl hh rfl rfl (by repeat (first | exact keeps_nil | apply keeps_cons (by repeat (first | exact find_head | apply find_tail)) (by first  | rfl) | exact keeps_self | apply keeps_mv)) ?_
      exact ⟨rfl, rfl⟩
end Go.Proofs.Qxb6500913a

import Derived.Test.Qxb6500911aGreatDoorC0
namespace Go.Proofs.Qxb6500911aGreatDoor
open Go.Eng
set_option linter.unusedVariables false
set_option linter.unusedSimpArgs false
theorem cal62 : callable Tryz.prog 62 = true := by kernel_rfl
theorem fld179_0 : fieldOk Tryz.prog 179 0 0 = true := by kernel_rfl
theorem one144 : oneOk Tryz.prog 144 = true := by kernel_rfl
theorem fld179_1 : fieldOk Tryz.prog 179 1 1 = true := by kernel_rfl
theorem one173 : oneOk Tryz.prog 173 = true := by kernel_rfl
/-! ## the loops of the sort, one round at a time -/
section sortl
variable {α : Type} [Inhabited α] {lt : α → α → Bool}
theorem ins_go {lo j : Nat} {d : Array α} (h : lo < j) (hl : lt d[j]! d[j - 1]! = true) : Sort.insInner lt lo j d = Sort.insInner lt lo (j - 1) (Sort.swp d j (j - 1)) := by
  obtain ⟨k, rfl⟩ : ∃ k, j = k + 1 := ⟨j - 1, by omega⟩
  rw [Sort.insInner]
  rw [Nat.add_sub_cancel] at hl ⊢
  rw [if_pos (by rw [hl]; simp; omega)]
theorem ins_stop {lo j : Nat} {d : Array α} (h : ¬ (lo < j ∧ lt d[j]! d[j - 1]! = true)) : Sort.insInner lt lo j d = d := by
  cases j with
  | zero => rw [Sort.insInner]
  | succ k =>
    rw [Nat.add_sub_cancel] at h
    rw [Sort.insInner, if_neg]
    intro h2
    rw [Bool.and_eq_true, decide_eq_true_eq] at h2
    exact h ⟨h2.1, h2.2⟩
theorem out_go {lo hi i : Nat} {d : Array α} (h : i < hi) : Sort.insOuter lt lo hi i d = Sort.insOuter lt lo hi (i + 1) (Sort.insInner lt lo i d) := by
  rw [Sort.insOuter, if_pos h]
theorem out_stop {lo hi i : Nat} {d : Array α} (h : ¬ i < hi) : Sort.insOuter lt lo hi i d = d := by
  rw [Sort.insOuter, if_neg h]
theorem sift_out {hi first root : Nat} {d : Array α} (h : hi ≤ 2 * root + 1) : Sort.siftDown lt hi first root d = d := by
  rw [Sort.siftDown, dif_pos h]
theorem sift_eq {hi first root ch : Nat} {d : Array α} (h : 2 * root + 1 < hi)
    (hc : (ch = 2 * root + 2 ∧ 2 * root + 2 < hi ∧ lt d[first + (2 * root + 1)]! d[first + (2 * root + 1) + 1]! = true) ∨ (ch = 2 * root + 1 ∧ ¬ (2 * root + 2 < hi ∧ lt d[first + (2 * root + 1)]! d[first + (2 * root + 1) + 1]! = true))) :
    Sort.siftDown lt hi first root d = if lt d[first + root]! d[first + ch]! = true then Sort.siftDown lt hi first ch (Sort.swp d (first + root) (first + ch)) else d := by
  rw [Sort.siftDown, dif_neg (by omega)]
  rcases hc with ⟨rfl, h1, h2⟩ | ⟨rfl, h1⟩
  · rw [if_pos (by rw [h2]; simp; omega)]
    cases hl : lt d[first + root]! d[first + (2 * root + 2)]! with
    | false => rw [if_pos (by rfl), if_neg (by simp)]
    | true => rw [if_neg (by simp), dif_pos h1, if_pos rfl]
  · rw [if_neg (by
      intro h2
      rw [Bool.and_eq_true, decide_eq_true_eq] at h2
      exact h1 ⟨h2.1, h2.2⟩)]
    cases hl : lt d[first + root]! d[first + (2 * root + 1)]! with
    | false => rw [if_pos (by rfl), if_neg (by simp)]
    | true => rw [if_neg (by simp), if_pos rfl]
theorem up_go {p : α → Bool} {d : Array α} {j i : Nat} (h : i ≤ j) (hp : p d[i]! = true) : Sort.scanUp p d j i = Sort.scanUp p d j (i + 1) := by
  rw [Sort.scanUp, if_pos (by rw [hp]; simp; exact h)]
theorem up_stop {p : α → Bool} {d : Array α} {j i : Nat} (h : ¬ (i ≤ j ∧ p d[i]! = true)) : Sort.scanUp p d j i = i := by
  rw [Sort.scanUp, if_neg]
  intro h2
  rw [Bool.and_eq_true, decide_eq_true_eq] at h2
  exact h h2
theorem dn_go {p : α → Bool} {d : Array α} {i j : Nat} (h : i ≤ j) (h1 : 1 ≤ i) (hp : p d[j]! = true) : Sort.scanDown p d i j = Sort.scanDown p d i (j - 1) := by
  obtain ⟨k, rfl⟩ : ∃ k, j = k + 1 := ⟨j - 1, by omega⟩
  rw [Sort.scanDown, if_pos (by rw [hp]; simp; omega), Nat.add_sub_cancel]
theorem dn_stop {p : α → Bool} {d : Array α} {i j : Nat} (h : ¬ (i ≤ j ∧ p d[j]! = true)) : Sort.scanDown p d i j = j := by
  cases j with
  | zero => rw [Sort.scanDown]
  | succ k =>
    rw [Sort.scanDown, if_neg]
    intro h2
    rw [Bool.and_eq_true, decide_eq_true_eq] at h2
    exact h h2
theorem pl_stop {lo i j i2 j2 : Nat} {d : Array α} (h1 : Sort.scanUp (fun x => lt x d[lo]!) d j i = i2) (h2 : Sort.scanDown (fun x => !lt x d[lo]!) d i2 j = j2) (h : j2 < i2) : Sort.partLoop lt lo i j d = (j2, d) := by
  rw [Sort.partLoop]
  simp only [h1, h2]
  rw [if_pos h]
theorem pl_go {lo i j i2 j2 : Nat} {d : Array α} (h1 : Sort.scanUp (fun x => lt x d[lo]!) d j i = i2) (h2 : Sort.scanDown (fun x => !lt x d[lo]!) d i2 j = j2) (h : i2 ≤ j2) (hi : i ≤ i2) (hj : j2 ≤ j) (h0 : 1 ≤ i) : Sort.partLoop lt lo i j d = Sort.partLoop lt lo (i2 + 1) (j2 - 1) (Sort.swp d i2 j2) := by
  rw [Sort.partLoop]
  simp only [h1, h2]
  rw [if_neg (by omega), dif_pos (by omega)]
theorem pe_stop {lo i j i2 j2 : Nat} {d : Array α} (h1 : Sort.scanUp (fun x => !lt d[lo]! x) d j i = i2) (h2 : Sort.scanDown (fun x => lt d[lo]! x) d i2 j = j2) (h : j2 < i2) : Sort.partEqLoop lt lo i j d = (i2, d) := by
  rw [Sort.partEqLoop]
  simp only [h1, h2]
  rw [if_pos h]
theorem pe_go {lo i j i2 j2 : Nat} {d : Array α} (h1 : Sort.scanUp (fun x => !lt d[lo]! x) d j i = i2) (h2 : Sort.scanDown (fun x => lt d[lo]! x) d i2 j = j2) (h : i2 ≤ j2) (hi : i ≤ i2) (hj : j2 ≤ j) (h0 : 1 ≤ i) : Sort.partEqLoop lt lo i j d = Sort.partEqLoop lt lo (i2 + 1) (j2 - 1) (Sort.swp d i2 j2) := by
  rw [Sort.partEqLoop]
  simp only [h1, h2]
  rw [if_neg (by omega), dif_pos (by omega)]
theorem ss_go {d : Array α} {hi i : Nat} (h : i < hi) (hl : lt d[i]! d[i - 1]! = false) : Sort.scanSorted lt d hi i = Sort.scanSorted lt d hi (i + 1) := by
  rw [Sort.scanSorted, if_pos (by rw [hl]; simp; exact h)]
theorem ss_stop {d : Array α} {hi i : Nat} (h : ¬ (i < hi ∧ lt d[i]! d[i - 1]! = false)) : Sort.scanSorted lt d hi i = i := by
  rw [Sort.scanSorted, if_neg]
  intro h2
  rw [Bool.and_eq_true, decide_eq_true_eq] at h2
  exact h ⟨h2.1, by simpa using h2.2⟩
theorem sd_go {j : Nat} {d : Array α} (h : 1 ≤ j) (hl : lt d[j]! d[j - 1]! = true) : Sort.shiftDown lt j d = Sort.shiftDown lt (j - 1) (Sort.swp d j (j - 1)) := by
  obtain ⟨k, rfl⟩ : ∃ k, j = k + 1 := ⟨j - 1, by omega⟩
  rw [Nat.add_sub_cancel] at hl ⊢
  rw [Sort.shiftDown, if_neg (by rw [hl]; simp)]
theorem sd_stop {j : Nat} {d : Array α} (h : ¬ (1 ≤ j ∧ lt d[j]! d[j - 1]! = true)) : Sort.shiftDown lt j d = d := by
  cases j with
  | zero => rw [Sort.shiftDown]
  | succ k =>
    rw [Nat.add_sub_cancel] at h
    rw [Sort.shiftDown, if_pos]
    cases hl : lt d[k + 1]! d[k]! with
    | false => rfl
    | true => exact absurd ⟨by omega, hl⟩ h
theorem su_go {hi j : Nat} {d : Array α} (h : j < hi) (hl : lt d[j]! d[j - 1]! = true) : Sort.shiftUp lt hi j d = Sort.shiftUp lt hi (j + 1) (Sort.swp d j (j - 1)) := by
  rw [Sort.shiftUp, if_pos h, if_neg (by rw [hl]; simp)]
theorem su_stop {hi j : Nat} {d : Array α} (h : ¬ (j < hi ∧ lt d[j]! d[j - 1]! = true)) : Sort.shiftUp lt hi j d = d := by
  rw [Sort.shiftUp]
  by_cases c : j < hi
  · rw [if_pos c]
    cases hl : lt d[j]! d[j - 1]! with
    | false => rfl
    | true => exact absurd ⟨c, hl⟩ h
  · rw [if_neg c]
theorem swp_sz (d : Array α) (i j : Nat) : (Sort.swp d i j).size = d.size := by simp [Sort.swp]
end sortl
theorem SE.to {b Bs n c : Nat} {th : Value} {sL : List Value} {d d' : Array Eg} (h : SE b Bs n c th sL d) (hs : d'.size = n) : SE b Bs n c th sL d' := ⟨hs, h.big, h.sl, h.sw⟩
theorem SE.swz {b Bs n c : Nat} {th : Value} {sL : List Value} {d d' : Array Eg} (h : SE b Bs n c th sL d) (hs : d'.size = n) : Go.Proofs.SwapSwapsK Tryz.prog 103 #[.slice (some ⟨b, 0, none⟩) n c, th] egc 4 b 0 d'.size := by rw [hs]; exact h.sw
structure IZ where
  d : Array Eg
  i : Nat
structure PZ3 where
  d : Array Eg
  i : Nat
  j : Nat
noncomputable def egTI : TypeInfo := (Tryz.prog.info? 102).get (by kernel_rfl)
theorem eg_swaps (b n c : Nat) : Go.Proofs.SwapSwapsK Tryz.prog 103 #[.slice (some ⟨b, 0, none⟩) n c, typeHandle Tryz.prog 102] egc 4 b 0 n :=
  Go.Proofs.swapSwapsK_of_literal false 103 (fun args W => run_callFunc_extern Tryz.func103 (by kernel_rfl) (by kernel_rfl) (by kernel_rfl) (e := Extern.ReflectliteSwapper.swap false) (by kernel_rfl) args W) 102 egTI (by kernel_rfl) egc 4 egc_len (by kernel_rfl) (fun _ => by kernel_rfl) (fun x v hv => by simp [egc] at hv; rcases hv with rfl | rfl | rfl | rfl <;> rfl) b 0 n c
theorem hb_go {hi fi k : Nat} {d : Array Eg} (h : 0 < k) : Sort.heapBuild egB hi fi k d = Sort.heapBuild egB hi fi (k - 1) (Sort.siftDown egB hi fi (k - 1) d) := by
  obtain ⟨q, rfl⟩ : ∃ q, k = q + 1 := ⟨k - 1, by omega⟩
  rw [Sort.heapBuild, Nat.add_sub_cancel]
theorem hp_go {fi k : Nat} {d : Array Eg} (h : 0 < k) : Sort.heapPop egB fi k d = Sort.heapPop egB fi (k - 1) (Sort.siftDown egB (k - 1) fi 0 (Sort.swp d fi (fi + (k - 1)))) := by
  obtain ⟨q, rfl⟩ : ∃ q, k = q + 1 := ⟨k - 1, by omega⟩
  rw [Sort.heapPop, Nat.add_sub_cancel]
theorem tdiv2 {x : Int} (m : Nat) (h : x = (m : Int)) : x.tdiv 2 = ((m / 2 : Nat) : Int) := by subst h; rfl
theorem tdiv4 {x : Int} (m : Nat) (h : x = (m : Int)) : x.tdiv 4 = ((m / 4 : Nat) : Int) := by subst h; rfl
theorem tdiv8 {x : Int} (m : Nat) (h : x = (m : Int)) : x.tdiv 8 = ((m / 8 : Nat) : Int) := by subst h; rfl
theorem dn_goN {d : Array Eg} {y : Eg} {i j : Nat} (h : i ≤ j) (h1 : 1 ≤ i) (hp : egB d[j]! y = false) : Sort.scanDown (fun x => !egB x y) d i j = Sort.scanDown (fun x => !egB x y) d i (j - 1) := dn_go h h1 (by simp only [hp]; rfl)
theorem up_goN {d : Array Eg} {y : Eg} {i j : Nat} (h : i ≤ j) (hp : egB y d[i]! = false) : Sort.scanUp (fun x => !egB y x) d j i = Sort.scanUp (fun x => !egB y x) d j (i + 1) := up_go h (by simp only [hp]; rfl)


set_option maxHeartbeats 4000000 in
theorem ins_spec2 {b Bs n c : Nat} {th : Value} {sL junk : List Value} {d : Array Eg} (hE : SE b Bs n c th sL d) (lo hi : Nat) (hab : lo ≤ hi) (hhi : hi ≤ n) : Sp Tryz.prog 106 #[.agg ⟨[lessV Bs, swapV b n c th]⟩, .int .i64 (lo : Int), .int .i64 (hi : Int)] [(b, C (fl egc d.toList ++ junk) 102), (Bs, C sL 46)] (fun v F' => v = .tuple #[] ∧ F' = [(b, C (fl egc (Sort.insertionSort egB d lo hi).toList ++ junk) 102), (Bs, C sL 46)] ∧ (Sort.insertionSort egB d lo hi).size = n) := by
  refine f_enter (args := [.agg ⟨[lessV Bs, swapV b n c th]⟩, .int .i64 (lo : Int), .int .i64 (hi : Int)]) Tryz.func106 rfl Tryz.ntmps106 rfl ?_
  intro w0 w a hpre hl hh
  have hsz := hE.sz
  have hbig := hE.big
  simp only [slotsFrom, Nat.reduceAdd] at hl
  refine c_seq ?_
  refine c_region ?_
  refine wl (w_box hl hh rfl trivial rfl rfl ?_)
  clear hl hh a w; intro k3 a w hl hh
  refine w_nil ?_
  have hl2 := hl.add (t := 1) (hl.add (t := 2) (hl.add (t := 3) (hl.nil) rfl) rfl) rfl; clear hl; have hl := hl2; clear hl2
  refine then_normal ?_
  refine c_seq ?_
  refine c_region ?_
  refine wl (wl_val hl rfl trivial (r_move hl rfl) ?_)
  clear hl a; intro a hl
  first | refine wl (wl_val hl rfl trivial (r_add hl rfl rfl (by simp only [Fits]; omega)) ?_) | refine wl (wl_val hl rfl trivial (r_addW hl rfl rfl) ?_)
  clear hl a; intro a hl
  refine wl (wl_val hl rfl trivial (r_assign hl rfl) ?_)
  clear hl a; intro a hl
  refine w_nil ?_
  have hl2 := hl.add (t := 1) (hl.add (t := 2) (hl.add (t := 3) (hl.add (t := 6) (hl.nil) rfl) rfl) rfl) rfl; clear hl; have hl := hl2; clear hl2
  refine then_normal ?_
  refine wp_block ?_
  obtain ⟨KS0, hKS0, hk⟩ := (hl.add (t := 1) (hl.add (t := 2) (hl.add (t := 3) (hl.nil) rfl) rfl) rfl).name
  obtain ⟨HS0, hHS0, hh2⟩ := hh.name (keeps_cons (b := b) (o' := C (fl egc d.toList ++ junk) 102) (by repeat (first | exact find_head | apply find_tail | apply find_skip)) (by first | rfl) (keeps_nil))
  refine c_loop (α := IZ) (fun z => hi - z.i) (fun z a w => (lo + 1 ≤ z.i ∧ z.d.size = n ∧ Sort.insOuter egB lo hi z.i z.d = Sort.insertionSort egB d lo hi) ∧ Sl 35 ([(6, .int .i64 (z.i : Int))] ++ KS0) a ∧ Has _ w0 ([(b, C (fl egc z.d.toList ++ junk) 102)] ++ HS0) w) ⟨d, lo + 1⟩ ⟨⟨Nat.le_refl _, hE.sz, rfl⟩, hl.addE (t := 6) (hk) rfl (by first | rfl), hh2⟩ ?_
  clear hk hh2 hl hh a w
  intro z a w hI
  obtain ⟨⟨hz1, hz2, hz3⟩, hl, hh⟩ := hI
  subst hKS0; subst hHS0
  simp only [List.cons_append, List.nil_append, List.append_nil, List.append_assoc] at hl hh
  refine c_seq ?_
  refine c_seq ?_
  refine c_region ?_
  refine wl (wl_val hl rfl trivial (r_move hl rfl) ?_)
  clear hl a; intro a hl
  refine wl (wl_val hl rfl trivial (r_move hl rfl) ?_)
  clear hl a; intro a hl
  refine wl (wl_val hl rfl trivial (r_lss hl rfl rfl) ?_)
  clear hl a; intro a hl
  refine w_nil ?_
  have hl2 := hl.add (t := 1) (hl.add (t := 2) (hl.add (t := 3) (hl.add (t := 6) (hl.add (t := 12) (hl.nil) rfl) rfl) rfl) rfl) rfl; clear hl; have hl := hl2; clear hl2
  refine then_normal ?_
  refine c_cond hl rfl ?_ ?_
  · intro hc0
    try simp only [decide_eq_true_eq, decide_eq_false_iff_not, Bool.not_eq_true', Bool.not_eq_false', Bool.not_eq_true, Bool.not_eq_false, Bool.and_eq_true, Bool.or_eq_true, Bool.and_eq_false_iff, Bool.or_eq_false_iff, Bool.not_not, ne_eq, Int.not_lt, Int.not_le, Decidable.not_not, beq_iff_eq, bne_iff_ne] at hc0
    refine wp_skip ?_
    refine then_normal ?_
    refine c_seq ?_
    refine wp_block ?_
    refine c_seq ?_
    refine c_region ?_
    refine wl (wl_val hl rfl trivial (r_move hl rfl) ?_)
    clear hl a; intro a hl
    refine wl (wl_val hl rfl trivial (r_assign hl rfl) ?_)
    clear hl a; intro a hl
    refine w_nil ?_
    have hl2 := hl.add (t := 1) (hl.add (t := 2) (hl.add (t := 3) (hl.add (t := 6) (hl.add (t := 7) (hl.nil) rfl) rfl) rfl) rfl) rfl; clear hl; have hl := hl2; clear hl2
    refine then_normal ?_
    refine wp_block ?_
    obtain ⟨KS1, hKS1, hk⟩ := (hl.add (t := 1) (hl.add (t := 2) (hl.add (t := 3) (hl.add (t := 6) (hl.nil) rfl) rfl) rfl) rfl).name
    obtain ⟨HS1, hHS1, hh2⟩ := hh.name (keeps_cons (b := b) (o' := C (fl egc z.d.toList ++ junk) 102) (by repeat (first | exact find_head | apply find_tail | apply find_skip)) (by first | rfl) (keeps_nil))
    refine c_loop (α := IZ) (fun y => y.i) (fun y a w => (y.i ≤ z.i ∧ y.d.size = n ∧ Sort.insInner egB lo y.i y.d = Sort.insInner egB lo z.i z.d) ∧ Sl 35 ([(7, .int .i64 (y.i : Int))] ++ KS1) a ∧ Has _ w0 ([(b, C (fl egc y.d.toList ++ junk) 102)] ++ HS1) w) ⟨z.d, z.i⟩ ⟨⟨Nat.le_refl _, hz2, rfl⟩, hl.addE (t := 7) (hk) rfl (by first | rfl), hh2⟩ ?_
    clear hk hh2 hl hh a w
    intro y a w hI
    obtain ⟨⟨hy1, hy2, hy3⟩, hl, hh⟩ := hI
    subst hKS1; subst hHS1
    simp only [List.cons_append, List.nil_append, List.append_nil, List.append_assoc] at hl hh
    refine c_seq ?_
    refine c_seq ?_
    refine c_region ?_
    refine wl (wl_val hl rfl trivial (r_move hl rfl) ?_)
    clear hl a; intro a hl
    refine wl (wl_val hl rfl trivial (r_move hl rfl) ?_)
    clear hl a; intro a hl
    refine wl (wl_val hl rfl trivial (r_gtr hl rfl rfl) ?_)
    clear hl a; intro a hl
    refine wl (wl_val hl rfl trivial (r_move hl rfl) ?_)
    clear hl a; intro a hl
    refine sl_split (t := 19) hl rfl ?_ ?_
    · intro hg1; clear hl; intro hl
      try simp only [decide_eq_true_eq, decide_eq_false_iff_not, Bool.not_eq_true', Bool.not_eq_false', Bool.not_eq_true, Bool.not_eq_false, Bool.and_eq_true, Bool.or_eq_true, Bool.and_eq_false_iff, Bool.or_eq_false_iff, Bool.not_not, ne_eq, Int.not_lt, Int.not_le, Decidable.not_not, beq_iff_eq, bne_iff_ne] at hg1
      refine wl (wl_val hl rfl ⟨_, _, rfl, rfl, rfl⟩ (r_field hl rfl fld179_0) ?_)
      clear hl a; intro a hl
      refine wl (w_load hl hh rfl ⟨_, _, rfl, rfl, rfl⟩ one144 rfl (by repeat (first | exact find_head | apply find_tail | apply find_skip)) (by first | rfl) ?_)
      clear hl a; intro a hl
      refine wl (wl_val hl rfl ⟨_, _, rfl, rfl, rfl⟩ (r_move hl rfl) ?_)
      clear hl a; intro a hl
      refine wl (wl_val hl rfl ⟨_, _, rfl, rfl, rfl⟩ (r_move hl rfl) ?_)
      clear hl a; intro a hl
      first | refine wl (wl_val hl rfl ⟨_, _, rfl, rfl, rfl⟩ (r_sub hl rfl rfl (by simp only [Fits]; omega)) ?_) | refine wl (wl_val hl rfl ⟨_, _, rfl, rfl, rfl⟩ (r_subW hl rfl rfl) ?_)
      clear hl a; intro a hl
      refine wl (w_call hl hh rfl ⟨_, _, rfl, rfl, rfl⟩ rfl cal62 rfl (less_spec (hE.to hy2) _ _ y.i (y.i - 1) (by omega) (by omega) (by omega) (by omega)) (by repeat (first | exact keeps_nil | apply keeps_cons (by repeat (first | exact find_head | apply find_tail | apply find_skip)) (by first  | rfl) | exact keeps_self | exact keeps_left | apply keeps_app | apply keeps_mv | apply keeps_skip)) trivial ?_)
      clear hl hh a w; intro vc Fc a w hR hl hh
      obtain ⟨rfl, rfl⟩ := hR
      try simp only [List.cons_append, List.nil_append, List.append_assoc, List.append_nil] at hh
      refine wl (wl_val hl rfl trivial (r_pickT hl rfl rfl) ?_)
      clear hl a; intro a hl
      refine w_nil ?_
      have hl2 := hl.add (t := 1) (hl.add (t := 2) (hl.add (t := 3) (hl.add (t := 6) (hl.add (t := 7) (hl.add (t := 26) (hl.nil) rfl) rfl) rfl) rfl) rfl) rfl; clear hl; have hl := hl2; clear hl2
      refine then_normal ?_
      refine c_cond hl rfl ?_ ?_
      · intro hc1
        try simp only [decide_eq_true_eq, decide_eq_false_iff_not, Bool.not_eq_true', Bool.not_eq_false', Bool.not_eq_true, Bool.not_eq_false, Bool.and_eq_true, Bool.or_eq_true, Bool.and_eq_false_iff, Bool.or_eq_false_iff, Bool.not_not, ne_eq, Int.not_lt, Int.not_le, Decidable.not_not, beq_iff_eq, bne_iff_ne] at hc1
        have hgo := ins_go (lt := egB) (lo := lo) (d := y.d) (j := y.i) (by omega) (by assumption)
        refine wp_skip ?_
        refine then_normal ?_
        refine c_seq ?_
        refine wp_block ?_
        refine c_region ?_
        refine wl (wl_val hl rfl trivial (r_field hl rfl fld179_1) ?_)
        clear hl a; intro a hl
        refine wl (w_load hl hh rfl trivial one173 rfl (by repeat (first | exact find_head | apply find_tail | apply find_skip)) (by first | rfl) ?_)
        clear hl a; intro a hl
        refine wl (wl_val hl rfl trivial (r_move hl rfl) ?_)
        clear hl a; intro a hl
        refine wl (wl_val hl rfl trivial (r_move hl rfl) ?_)
        clear hl a; intro a hl
        first | refine wl (wl_val hl rfl trivial (r_sub hl rfl rfl (by simp only [Fits]; omega)) ?_) | refine wl (wl_val hl rfl trivial (r_subW hl rfl rfl) ?_)
        clear hl a; intro a hl
        refine wl (w_swap (y.i) (y.i - 1) egc_len (by decide) hl hh rfl trivial rfl rfl (by repeat (first | exact find_head | apply find_tail | apply find_skip)) (hE.swz hy2) (by omega) (by omega) (by omega) (by omega) ?_)
        clear hl hh a w; intro a w hl hh
        refine w_nil ?_
        have hl2 := hl.add (t := 1) (hl.add (t := 2) (hl.add (t := 3) (hl.add (t := 6) (hl.add (t := 7) (hl.nil) rfl) rfl) rfl) rfl) rfl; clear hl; have hl := hl2; clear hl2
        refine blk_normal ?_
        refine then_normal ?_
        refine c_region ?_
        refine wl (wl_val hl rfl trivial (r_move hl rfl) ?_)
        clear hl a; intro a hl
        first | refine wl (wl_val hl rfl trivial (r_sub hl rfl rfl (by simp only [Fits]; omega)) ?_) | refine wl (wl_val hl rfl trivial (r_subW hl rfl rfl) ?_)
        clear hl a; intro a hl
        refine wl (wl_val hl rfl trivial (r_assign hl rfl) ?_)
        clear hl a; intro a hl
        refine w_nil ?_
        have hl2 := hl.add (t := 1) (hl.add (t := 2) (hl.add (t := 3) (hl.add (t := 6) (hl.add (t := 7) (hl.nil) rfl) rfl) rfl) rfl) rfl; clear hl; have hl := hl2; clear hl2
        refine then_normal ?_
        refine ⟨⟨Sort.swp y.d y.i (y.i - 1), y.i - 1⟩, (by simp only; omega), ⟨by simp only; omega, by simp only; rw [swp_sz]; exact hy2, by simp only; rw [← hgo]; exact hy3⟩, hl.addE (t := 7) (hl.addE (t := 1) (hl.addE (t := 2) (hl.addE (t := 3) (hl.addE (t := 6) (hl.nil) rfl (by first | rfl | exact congrArg (Value.int .i64) (by first | omega | (simp only; omega)))) rfl (by first | rfl | exact congrArg (Value.int .i64) (by first | omega | (simp only; omega)))) rfl (by first | rfl | exact congrArg (Value.int .i64) (by first | omega | (simp only; omega)))) rfl (by first | rfl | exact congrArg (Value.int .i64) (by first | omega | (simp only; omega)))) rfl (by first | rfl | exact congrArg (Value.int .i64) (by first | omega | (simp only; omega))), hh.keep (by repeat (first | exact keeps_nil | apply keeps_cons (by repeat (first | exact find_head | apply find_tail | apply find_skip)) (by first  | rfl) | exact keeps_self | exact keeps_left | apply keeps_app | apply keeps_mv | apply keeps_skip))⟩
      · intro hc1
        try simp only [decide_eq_true_eq, decide_eq_false_iff_not, Bool.not_eq_true', Bool.not_eq_false', Bool.not_eq_true, Bool.not_eq_false, Bool.and_eq_true, Bool.or_eq_true, Bool.and_eq_false_iff, Bool.or_eq_false_iff, Bool.not_not, ne_eq, Int.not_lt, Int.not_le, Decidable.not_not, beq_iff_eq, bne_iff_ne] at hc1
        have hst : y.d = Sort.insInner egB lo z.i z.d := by rw [← hy3]; exact (ins_stop (fun h9 => by first | omega | (have h8 := h9.2; rw [show egB y.d[y.i]! y.d[y.i - 1]! = false by assumption] at h8; cases h8))).symm
        refine wp_exit ?_
        refine then_exit ?_
        refine then_exit ?_
        refine blk_exit ?_
        refine blk_normal ?_
        refine then_normal ?_
        refine c_region ?_
        refine wl (wl_val hl rfl trivial (r_move hl rfl) ?_)
        clear hl a; intro a hl
        first | refine wl (wl_val hl rfl trivial (r_add hl rfl rfl (by simp only [Fits]; omega)) ?_) | refine wl (wl_val hl rfl trivial (r_addW hl rfl rfl) ?_)
        clear hl a; intro a hl
        refine wl (wl_val hl rfl trivial (r_assign hl rfl) ?_)
        clear hl a; intro a hl
        refine w_nil ?_
        have hl2 := hl.add (t := 1) (hl.add (t := 2) (hl.add (t := 3) (hl.add (t := 6) (hl.nil) rfl) rfl) rfl) rfl; clear hl; have hl := hl2; clear hl2
        refine then_normal ?_
        refine ⟨⟨y.d, z.i + 1⟩, (by simp only; omega), ⟨by simp only; omega, hy2, by simp only; rw [← hz3, hst]; exact (out_go (by omega)).symm⟩, hl.addE (t := 6) (hl.addE (t := 1) (hl.addE (t := 2) (hl.addE (t := 3) (hl.nil) rfl (by first | rfl | (congr 1; omega))) rfl (by first | rfl | (congr 1; omega))) rfl (by first | rfl | (congr 1; omega))) rfl (by first | rfl | (congr 1; omega)), hh.keep (by repeat (first | exact keeps_nil | apply keeps_cons (by repeat (first | exact find_head | apply find_tail | apply find_skip)) (by first  | rfl) | exact keeps_self | exact keeps_left | apply keeps_app | apply keeps_mv | apply keeps_skip))⟩
    · intro hg1; clear hl; intro hl
      try simp only [decide_eq_true_eq, decide_eq_false_iff_not, Bool.not_eq_true', Bool.not_eq_false', Bool.not_eq_true, Bool.not_eq_false, Bool.and_eq_true, Bool.or_eq_true, Bool.and_eq_false_iff, Bool.or_eq_false_iff, Bool.not_not, ne_eq, Int.not_lt, Int.not_le, Decidable.not_not, beq_iff_eq, bne_iff_ne] at hg1
      refine wl (wl_skip hl rfl ⟨_, _, rfl, rfl, rfl⟩ ?_)
      clear hl a; intro a hl
      refine wl (wl_skip hl rfl ⟨_, _, rfl, rfl, rfl⟩ ?_)
      clear hl a; intro a hl
      refine wl (wl_skip hl rfl ⟨_, _, rfl, rfl, rfl⟩ ?_)
      clear hl a; intro a hl
      refine wl (wl_skip hl rfl ⟨_, _, rfl, rfl, rfl⟩ ?_)
      clear hl a; intro a hl
      refine wl (wl_skip hl rfl ⟨_, _, rfl, rfl, rfl⟩ ?_)
      clear hl a; intro a hl
      refine wl (wl_skip hl rfl ⟨_, _, rfl, rfl, rfl⟩ ?_)
      clear hl a; intro a hl
      refine wl (wl_val hl rfl trivial (r_pickF hl rfl rfl) ?_)
      clear hl a; intro a hl
      refine w_nil ?_
      have hl2 := hl.add (t := 1) (hl.add (t := 2) (hl.add (t := 3) (hl.add (t := 6) (hl.add (t := 7) (hl.add (t := 26) (hl.nil) rfl) rfl) rfl) rfl) rfl) rfl; clear hl; have hl := hl2; clear hl2
      refine then_normal ?_
      refine c_condF hl rfl ?_
      have hst : y.d = Sort.insInner egB lo z.i z.d := by rw [← hy3]; exact (ins_stop (fun h9 => by first | omega | (have h8 := h9.2; rw [show egB y.d[y.i]! y.d[y.i - 1]! = false by assumption] at h8; cases h8))).symm
      refine wp_exit ?_
      refine then_exit ?_
      refine then_exit ?_
      refine blk_exit ?_
      refine blk_normal ?_
      refine then_normal ?_
      refine c_region ?_
      refine wl (wl_val hl rfl trivial (r_move hl rfl) ?_)
      clear hl a; intro a hl
      first | refine wl (wl_val hl rfl trivial (r_add hl rfl rfl (by simp only [Fits]; omega)) ?_) | refine wl (wl_val hl rfl trivial (r_addW hl rfl rfl) ?_)
      clear hl a; intro a hl
      refine wl (wl_val hl rfl trivial (r_assign hl rfl) ?_)
      clear hl a; intro a hl
      refine w_nil ?_
      have hl2 := hl.add (t := 1) (hl.add (t := 2) (hl.add (t := 3) (hl.add (t := 6) (hl.nil) rfl) rfl) rfl) rfl; clear hl; have hl := hl2; clear hl2
      refine then_normal ?_
      refine ⟨⟨y.d, z.i + 1⟩, (by simp only; omega), ⟨by simp only; omega, hy2, by simp only; rw [← hz3, hst]; exact (out_go (by omega)).symm⟩, hl.addE (t := 6) (hl.addE (t := 1) (hl.addE (t := 2) (hl.addE (t := 3) (hl.nil) rfl (by first | rfl | (congr 1; omega))) rfl (by first | rfl | (congr 1; omega))) rfl (by first | rfl | (congr 1; omega))) rfl (by first | rfl | (congr 1; omega)), hh.keep (by repeat (first | exact keeps_nil | apply keeps_cons (by repeat (first | exact find_head | apply find_tail | apply find_skip)) (by first  | rfl) | exact keeps_self | exact keeps_left | apply keeps_app | apply keeps_mv | apply keeps_skip))⟩
  · intro hc0
    try simp only [decide_eq_true_eq, decide_eq_false_iff_not, Bool.not_eq_true', Bool.not_eq_false', Bool.not_eq_true, Bool.not_eq_false, Bool.and_eq_true, Bool.or_eq_true, Bool.and_eq_false_iff, Bool.or_eq_false_iff, Bool.not_not, ne_eq, Int.not_lt, Int.not_le, Decidable.not_not, beq_iff_eq, bne_iff_ne] at hc0
    have hfin : z.d = Sort.insertionSort egB d lo hi := by rw [← hz3, out_stop (by omega)]
    refine wp_exit ?_
    refine then_exit ?_
    refine then_exit ?_
    refine blk_exit ?_
    refine f_end0 (F' := [(b, C (fl egc z.d.toList ++ junk) 102), (Bs, C sL 46)]) hl hh rfl (by repeat (first | exact keeps_nil | apply keeps_cons (by repeat (first | exact find_head | apply find_tail | apply find_skip)) (by first  | rfl) | exact keeps_self | exact keeps_left | apply keeps_app | apply keeps_mv | apply keeps_skip)) ?_
    rw [← hfin]
    exact ⟨rfl, rfl, hz2⟩

set_option maxHeartbeats 4000000 in
theorem sift_spec {b Bs n c : Nat} {th : Value} {sL junk : List Value} {d : Array Eg} (hE : SE b Bs n c th sL d) (lo hi fi : Nat) (hlh : lo ≤ hi) (hhi : fi + hi ≤ n) : Sp Tryz.prog 115 #[.agg ⟨[lessV Bs, swapV b n c th]⟩, .int .i64 (lo : Int), .int .i64 (hi : Int), .int .i64 (fi : Int)] [(b, C (fl egc d.toList ++ junk) 102), (Bs, C sL 46)] (fun v F' => v = .tuple #[] ∧ F' = [(b, C (fl egc (Sort.siftDown egB hi fi lo d).toList ++ junk) 102), (Bs, C sL 46)] ∧ (Sort.siftDown egB hi fi lo d).size = n) := by
  refine f_enter (args := [.agg ⟨[lessV Bs, swapV b n c th]⟩, .int .i64 (lo : Int), .int .i64 (hi : Int), .int .i64 (fi : Int)]) Tryz.func115 rfl Tryz.ntmps115 rfl ?_
  intro w0 w a hpre hl hh
  have hsz := hE.sz
  have hbig := hE.big
  simp only [slotsFrom, Nat.reduceAdd] at hl
  refine c_seq ?_
  refine c_region ?_
  refine wl (w_box hl hh rfl trivial rfl rfl ?_)
  clear hl hh a w; intro k4 a w hl hh
  refine w_nil ?_
  have hl2 := hl.add (t := 1) (hl.add (t := 2) (hl.add (t := 3) (hl.add (t := 4) (hl.nil) rfl) rfl) rfl) rfl; clear hl; have hl := hl2; clear hl2
  refine then_normal ?_
  refine c_seq ?_
  refine c_region ?_
  refine wl (wl_val hl rfl trivial (r_move hl rfl) ?_)
  clear hl a; intro a hl
  refine wl (wl_val hl rfl trivial (r_assign hl rfl) ?_)
  clear hl a; intro a hl
  refine w_nil ?_
  have hl2 := hl.add (t := 2) (hl.add (t := 3) (hl.add (t := 4) (hl.add (t := 8) (hl.nil) rfl) rfl) rfl) rfl; clear hl; have hl := hl2; clear hl2
  refine then_normal ?_
  refine wp_block ?_
  obtain ⟨KS0, hKS0, hk⟩ := (hl.add (t := 2) (hl.add (t := 3) (hl.add (t := 4) (hl.nil) rfl) rfl) rfl).name
  obtain ⟨HS0, hHS0, hh2⟩ := hh.name (keeps_cons (b := b) (o' := C (fl egc d.toList ++ junk) 102) (by repeat (first | exact find_head | apply find_tail | apply find_skip)) (by first | rfl) (keeps_nil))
  refine c_loop (α := IZ) (fun z => hi - z.i) (fun z a w => (z.i ≤ hi ∧ z.d.size = n ∧ Sort.siftDown egB hi fi z.i z.d = Sort.siftDown egB hi fi lo d) ∧ Sl 55 ([(8, .int .i64 (z.i : Int))] ++ KS0) a ∧ Has _ w0 ([(b, C (fl egc z.d.toList ++ junk) 102)] ++ HS0) w) ⟨d, lo⟩ ⟨⟨hlh, hE.sz, rfl⟩, hl.addE (t := 8) (hk) rfl (by first | rfl), hh2⟩ ?_
  clear hk hh2 hl hh a w
  intro z a w hI
  obtain ⟨⟨hz1, hz2, hz3⟩, hl, hh⟩ := hI
  subst hKS0; subst hHS0
  simp only [List.cons_append, List.nil_append, List.append_nil, List.append_assoc] at hl hh
  refine wp_block ?_
  refine c_seq ?_
  refine c_region ?_
  refine wl (wl_val hl rfl trivial (r_move hl rfl) ?_)
  clear hl a; intro a hl
  first | refine wl (wl_val hl rfl trivial (r_mul hl rfl rfl (by simp only [Fits]; omega)) ?_) | refine wl (wl_val hl rfl trivial (r_mulW hl rfl rfl) ?_)
  clear hl a; intro a hl
  first | refine wl (wl_val hl rfl trivial (r_add hl rfl rfl (by simp only [Fits]; omega)) ?_) | refine wl (wl_val hl rfl trivial (r_addW hl rfl rfl) ?_)
  clear hl a; intro a hl
  refine wl (wl_val hl rfl trivial (r_assign hl rfl) ?_)
  clear hl a; intro a hl
  refine w_nil ?_
  have hl2 := hl.add (t := 2) (hl.add (t := 3) (hl.add (t := 4) (hl.add (t := 8) (hl.add (t := 9) (hl.nil) rfl) rfl) rfl) rfl) rfl; clear hl; have hl := hl2; clear hl2
  refine then_normal ?_
  refine c_seq ?_
  refine c_seq ?_
  refine c_region ?_
  refine wl (wl_val hl rfl trivial (r_move hl rfl) ?_)
  clear hl a; intro a hl
  refine wl (wl_val hl rfl trivial (r_move hl rfl) ?_)
  clear hl a; intro a hl
  refine wl (wl_val hl rfl trivial (r_geq hl rfl rfl) ?_)
  clear hl a; intro a hl
  refine w_nil ?_
  have hl2 := hl.add (t := 2) (hl.add (t := 3) (hl.add (t := 4) (hl.add (t := 8) (hl.add (t := 9) (hl.add (t := 16) (hl.nil) rfl) rfl) rfl) rfl) rfl) rfl; clear hl; have hl := hl2; clear hl2
  refine then_normal ?_
  refine c_cond hl rfl ?_ ?_
  · intro hc0
    try simp only [decide_eq_true_eq, decide_eq_false_iff_not, Bool.not_eq_true', Bool.not_eq_false', Bool.not_eq_true, Bool.not_eq_false, Bool.and_eq_true, Bool.or_eq_true, Bool.and_eq_false_iff, Bool.or_eq_false_iff, Bool.not_not, ne_eq, Int.not_lt, Int.not_le, Decidable.not_not, beq_iff_eq, bne_iff_ne] at hc0
    have hfin : z.d = Sort.siftDown egB hi fi lo d := by rw [← hz3, sift_out (by omega)]
    refine wp_exit ?_
    refine then_exit ?_
    refine blk_exit_ne rfl ?_
    refine then_exit ?_
    refine blk_exit ?_
    refine f_end0 (F' := [(b, C (fl egc z.d.toList ++ junk) 102), (Bs, C sL 46)]) hl hh rfl (by repeat (first | exact keeps_nil | apply keeps_cons (by repeat (first | exact find_head | apply find_tail | apply find_skip)) (by first  | rfl) | exact keeps_self | exact keeps_left | apply keeps_app | apply keeps_mv | apply keeps_skip)) ?_
    rw [← hfin]
    exact ⟨rfl, rfl, hz2⟩
  · intro hc0
    try simp only [decide_eq_true_eq, decide_eq_false_iff_not, Bool.not_eq_true', Bool.not_eq_false', Bool.not_eq_true, Bool.not_eq_false, Bool.and_eq_true, Bool.or_eq_true, Bool.and_eq_false_iff, Bool.or_eq_false_iff, Bool.not_not, ne_eq, Int.not_lt, Int.not_le, Decidable.not_not, beq_iff_eq, bne_iff_ne] at hc0
    refine wp_skip ?_
    refine then_normal ?_
    refine c_seq ?_
    refine c_seq ?_
    refine c_region ?_
    refine wl (wl_val hl rfl trivial (r_move hl rfl) ?_)
    clear hl a; intro a hl
    first | refine wl (wl_val hl rfl trivial (r_add hl rfl rfl (by simp only [Fits]; omega)) ?_) | refine wl (wl_val hl rfl trivial (r_addW hl rfl rfl) ?_)
    clear hl a; intro a hl
    refine wl (wl_val hl rfl trivial (r_move hl rfl) ?_)
    clear hl a; intro a hl
    refine wl (wl_val hl rfl trivial (r_lss hl rfl rfl) ?_)
    clear hl a; intro a hl
    refine wl (wl_val hl rfl trivial (r_move hl rfl) ?_)
    clear hl a; intro a hl
    refine sl_split (t := 21) hl rfl ?_ ?_
    · intro hg1; clear hl; intro hl
      try simp only [decide_eq_true_eq, decide_eq_false_iff_not, Bool.not_eq_true', Bool.not_eq_false', Bool.not_eq_true, Bool.not_eq_false, Bool.and_eq_true, Bool.or_eq_true, Bool.and_eq_false_iff, Bool.or_eq_false_iff, Bool.not_not, ne_eq, Int.not_lt, Int.not_le, Decidable.not_not, beq_iff_eq, bne_iff_ne] at hg1
      refine wl (wl_val hl rfl ⟨_, _, rfl, rfl, rfl⟩ (r_field hl rfl fld179_0) ?_)
      clear hl a; intro a hl
      refine wl (w_load hl hh rfl ⟨_, _, rfl, rfl, rfl⟩ one144 rfl (by repeat (first | exact find_head | apply find_tail | apply find_skip)) (by first | rfl) ?_)
      clear hl a; intro a hl
      refine wl (wl_val hl rfl ⟨_, _, rfl, rfl, rfl⟩ (r_move hl rfl) ?_)
      clear hl a; intro a hl
      refine wl (wl_val hl rfl ⟨_, _, rfl, rfl, rfl⟩ (r_move hl rfl) ?_)
      clear hl a; intro a hl
      first | refine wl (wl_val hl rfl ⟨_, _, rfl, rfl, rfl⟩ (r_add hl rfl rfl (by simp only [Fits]; omega)) ?_) | refine wl (wl_val hl rfl ⟨_, _, rfl, rfl, rfl⟩ (r_addW hl rfl rfl) ?_)
      clear hl a; intro a hl
      refine wl (wl_val hl rfl ⟨_, _, rfl, rfl, rfl⟩ (r_move hl rfl) ?_)
      clear hl a; intro a hl
      refine wl (wl_val hl rfl ⟨_, _, rfl, rfl, rfl⟩ (r_move hl rfl) ?_)
      clear hl a; intro a hl
      first | refine wl (wl_val hl rfl ⟨_, _, rfl, rfl, rfl⟩ (r_add hl rfl rfl (by simp only [Fits]; omega)) ?_) | refine wl (wl_val hl rfl ⟨_, _, rfl, rfl, rfl⟩ (r_addW hl rfl rfl) ?_)
      clear hl a; intro a hl
      first | refine wl (wl_val hl rfl ⟨_, _, rfl, rfl, rfl⟩ (r_add hl rfl rfl (by simp only [Fits]; omega)) ?_) | refine wl (wl_val hl rfl ⟨_, _, rfl, rfl, rfl⟩ (r_addW hl rfl rfl) ?_)
      clear hl a; intro a hl
      refine wl (w_call hl hh rfl ⟨_, _, rfl, rfl, rfl⟩ rfl cal62 rfl (less_spec (hE.to hz2) _ _ (fi + (2 * z.i + 1)) (fi + (2 * z.i + 1) + 1) (by omega) (by omega) (by omega) (by omega)) (by repeat (first | exact keeps_nil | apply keeps_cons (by repeat (first | exact find_head | apply find_tail | apply find_skip)) (by first  | rfl) | exact keeps_self | exact keeps_left | apply keeps_app | apply keeps_mv | apply keeps_skip)) trivial ?_)
      clear hl hh a w; intro vc Fc a w hR hl hh
      obtain ⟨rfl, rfl⟩ := hR
      try simp only [List.cons_append, List.nil_append, List.append_assoc, List.append_nil] at hh
      refine wl (wl_val hl rfl trivial (r_pickT hl rfl rfl) ?_)
      clear hl a; intro a hl
      refine w_nil ?_
      have hl2 := hl.add (t := 2) (hl.add (t := 3) (hl.add (t := 4) (hl.add (t := 8) (hl.add (t := 9) (hl.add (t := 32) (hl.nil) rfl) rfl) rfl) rfl) rfl) rfl; clear hl; have hl := hl2; clear hl2
      refine then_normal ?_
      refine c_cond hl rfl ?_ ?_
      · intro hc1
        try simp only [decide_eq_true_eq, decide_eq_false_iff_not, Bool.not_eq_true', Bool.not_eq_false', Bool.not_eq_true, Bool.not_eq_false, Bool.and_eq_true, Bool.or_eq_true, Bool.and_eq_false_iff, Bool.or_eq_false_iff, Bool.not_not, ne_eq, Int.not_lt, Int.not_le, Decidable.not_not, beq_iff_eq, bne_iff_ne] at hc1
        obtain ⟨ch, hcv⟩ : ∃ ch, ch = 2 * z.i + 2 := ⟨_, rfl⟩
        have hch : (ch = 2 * z.i + 2 ∧ 2 * z.i + 2 < hi ∧ egB z.d[fi + (2 * z.i + 1)]! z.d[fi + (2 * z.i + 1) + 1]! = true) ∨ (ch = 2 * z.i + 1 ∧ ¬ (2 * z.i + 2 < hi ∧ egB z.d[fi + (2 * z.i + 1)]! z.d[fi + (2 * z.i + 1) + 1]! = true)) := .inl ⟨hcv, by omega, by assumption⟩
        refine c_region ?_
        refine wl (wl_val hl rfl trivial (r_move hl rfl) ?_)
        clear hl a; intro a hl
        first | refine wl (wl_val hl rfl trivial (r_add hl rfl rfl (by simp only [Fits]; omega)) ?_) | refine wl (wl_val hl rfl trivial (r_addW hl rfl rfl) ?_)
        clear hl a; intro a hl
        refine wl (wl_val hl rfl trivial (r_assign hl rfl) ?_)
        clear hl a; intro a hl
        refine w_nil ?_
        have hl2 := hl.add (t := 2) (hl.add (t := 3) (hl.add (t := 4) (hl.add (t := 8) (hl.add (t := 9) (hl.nil) rfl) rfl) rfl) rfl) rfl; clear hl; have hl := hl2; clear hl2
        refine then_normal ?_
        refine c_seq ?_
        refine c_seq ?_
        refine c_region ?_
        refine wl (wl_val hl rfl trivial (r_field hl rfl fld179_0) ?_)
        clear hl a; intro a hl
        refine wl (w_load hl hh rfl trivial one144 rfl (by repeat (first | exact find_head | apply find_tail | apply find_skip)) (by first | rfl) ?_)
        clear hl a; intro a hl
        refine wl (wl_val hl rfl trivial (r_move hl rfl) ?_)
        clear hl a; intro a hl
        refine wl (wl_val hl rfl trivial (r_move hl rfl) ?_)
        clear hl a; intro a hl
        first | refine wl (wl_val hl rfl trivial (r_add hl rfl rfl (by simp only [Fits]; omega)) ?_) | refine wl (wl_val hl rfl trivial (r_addW hl rfl rfl) ?_)
        clear hl a; intro a hl
        refine wl (wl_val hl rfl trivial (r_move hl rfl) ?_)
        clear hl a; intro a hl
        refine wl (wl_val hl rfl trivial (r_move hl rfl) ?_)
        clear hl a; intro a hl
        first | refine wl (wl_val hl rfl trivial (r_add hl rfl rfl (by simp only [Fits]; omega)) ?_) | refine wl (wl_val hl rfl trivial (r_addW hl rfl rfl) ?_)
        clear hl a; intro a hl
        refine wl (w_call hl hh rfl trivial rfl cal62 rfl (less_spec (hE.to hz2) _ _ (fi + z.i) (fi + ch) (by omega) (by omega) (by omega) (by omega)) (by repeat (first | exact keeps_nil | apply keeps_cons (by repeat (first | exact find_head | apply find_tail | apply find_skip)) (by first  | rfl) | exact keeps_self | exact keeps_left | apply keeps_app | apply keeps_mv | apply keeps_skip)) trivial ?_)
        clear hl hh a w; intro vc Fc a w hR hl hh
        obtain ⟨rfl, rfl⟩ := hR
        try simp only [List.cons_append, List.nil_append, List.append_assoc, List.append_nil] at hh
        refine wl (wl_val hl rfl trivial (r_not hl rfl) ?_)
        clear hl a; intro a hl
        refine w_nil ?_
        have hl2 := hl.add (t := 2) (hl.add (t := 3) (hl.add (t := 4) (hl.add (t := 8) (hl.add (t := 9) (hl.add (t := 44) (hl.nil) rfl) rfl) rfl) rfl) rfl) rfl; clear hl; have hl := hl2; clear hl2
        refine then_normal ?_
        refine c_cond hl rfl ?_ ?_
        · intro hc2
          try simp only [decide_eq_true_eq, decide_eq_false_iff_not, Bool.not_eq_true', Bool.not_eq_false', Bool.not_eq_true, Bool.not_eq_false, Bool.and_eq_true, Bool.or_eq_true, Bool.and_eq_false_iff, Bool.or_eq_false_iff, Bool.not_not, ne_eq, Int.not_lt, Int.not_le, Decidable.not_not, beq_iff_eq, bne_iff_ne] at hc2
          have hfin : z.d = Sort.siftDown egB hi fi lo d := by rw [← hz3, sift_eq (by omega) hch, if_neg (by rw [show egB z.d[fi + z.i]! z.d[fi + ch]! = false by assumption]; simp)]
          refine wp_ret ?_
          refine then_ret ?_
          refine blk_ret ?_
          refine then_ret ?_
          refine blk_ret ?_
          refine f_ret0 (F' := [(b, C (fl egc z.d.toList ++ junk) 102), (Bs, C sL 46)]) hl hh rfl (by repeat (first | exact keeps_nil | apply keeps_cons (by repeat (first | exact find_head | apply find_tail | apply find_skip)) (by first  | rfl) | exact keeps_self | exact keeps_left | apply keeps_app | apply keeps_mv | apply keeps_skip)) ?_
          rw [← hfin]
          exact ⟨rfl, rfl, hz2⟩
        · intro hc2
          try simp only [decide_eq_true_eq, decide_eq_false_iff_not, Bool.not_eq_true', Bool.not_eq_false', Bool.not_eq_true, Bool.not_eq_false, Bool.and_eq_true, Bool.or_eq_true, Bool.and_eq_false_iff, Bool.or_eq_false_iff, Bool.not_not, ne_eq, Int.not_lt, Int.not_le, Decidable.not_not, beq_iff_eq, bne_iff_ne] at hc2
          refine wp_skip ?_
          refine then_normal ?_
          refine c_seq ?_
          refine c_region ?_
          refine wl (wl_val hl rfl trivial (r_field hl rfl fld179_1) ?_)
          clear hl a; intro a hl
          refine wl (w_load hl hh rfl trivial one173 rfl (by repeat (first | exact find_head | apply find_tail | apply find_skip)) (by first | rfl) ?_)
          clear hl a; intro a hl
          refine wl (wl_val hl rfl trivial (r_move hl rfl) ?_)
          clear hl a; intro a hl
          refine wl (wl_val hl rfl trivial (r_move hl rfl) ?_)
          clear hl a; intro a hl
          first | refine wl (wl_val hl rfl trivial (r_add hl rfl rfl (by simp only [Fits]; omega)) ?_) | refine wl (wl_val hl rfl trivial (r_addW hl rfl rfl) ?_)
          clear hl a; intro a hl
          refine wl (wl_val hl rfl trivial (r_move hl rfl) ?_)
          clear hl a; intro a hl
          refine wl (wl_val hl rfl trivial (r_move hl rfl) ?_)
          clear hl a; intro a hl
          first | refine wl (wl_val hl rfl trivial (r_add hl rfl rfl (by simp only [Fits]; omega)) ?_) | refine wl (wl_val hl rfl trivial (r_addW hl rfl rfl) ?_)
          clear hl a; intro a hl
          refine wl (w_swap (fi + z.i) (fi + ch) egc_len (by decide) hl hh rfl trivial rfl rfl (by repeat (first | exact find_head | apply find_tail | apply find_skip)) (hE.swz hz2) (by omega) (by omega) (by omega) (by omega) ?_)
          clear hl hh a w; intro a w hl hh
          refine w_nil ?_
          have hl2 := hl.add (t := 2) (hl.add (t := 3) (hl.add (t := 4) (hl.add (t := 9) (hl.nil) rfl) rfl) rfl) rfl; clear hl; have hl := hl2; clear hl2
          refine then_normal ?_
          refine c_region ?_
          refine wl (wl_val hl rfl trivial (r_move hl rfl) ?_)
          clear hl a; intro a hl
          refine wl (wl_val hl rfl trivial (r_assign hl rfl) ?_)
          clear hl a; intro a hl
          refine w_nil ?_
          have hl2 := hl.add (t := 2) (hl.add (t := 3) (hl.add (t := 4) (hl.add (t := 8) (hl.nil) rfl) rfl) rfl) rfl; clear hl; have hl := hl2; clear hl2
          refine blk_normal ?_
          refine then_normal ?_
          refine ⟨⟨Sort.swp z.d (fi + z.i) (fi + ch), ch⟩, (by simp only; omega), ⟨by simp only; omega, by simp only; rw [swp_sz]; exact hz2, by simp only; rw [← hz3, sift_eq (by omega) hch, if_pos (by assumption)]⟩, hl.addE (t := 8) (hl.addE (t := 2) (hl.addE (t := 3) (hl.addE (t := 4) (hl.nil) rfl (by first | rfl | exact congrArg (Value.int .i64) (by first | omega | (simp only; omega)))) rfl (by first | rfl | exact congrArg (Value.int .i64) (by first | omega | (simp only; omega)))) rfl (by first | rfl | exact congrArg (Value.int .i64) (by first | omega | (simp only; omega)))) rfl (by first | rfl | exact congrArg (Value.int .i64) (by first | omega | (simp only; omega))), hh.keep (by repeat (first | exact keeps_nil | apply keeps_cons (by repeat (first | exact find_head | apply find_tail | apply find_skip)) (by first  | rfl) | exact keeps_self | exact keeps_left | apply keeps_app | apply keeps_mv | apply keeps_skip))⟩
      · intro hc1
        try simp only [decide_eq_true_eq, decide_eq_false_iff_not, Bool.not_eq_true', Bool.not_eq_false', Bool.not_eq_true, Bool.not_eq_false, Bool.and_eq_true, Bool.or_eq_true, Bool.and_eq_false_iff, Bool.or_eq_false_iff, Bool.not_not, ne_eq, Int.not_lt, Int.not_le, Decidable.not_not, beq_iff_eq, bne_iff_ne] at hc1
        obtain ⟨ch, hcv⟩ : ∃ ch, ch = 2 * z.i + 1 := ⟨_, rfl⟩
        have hch : (ch = 2 * z.i + 2 ∧ 2 * z.i + 2 < hi ∧ egB z.d[fi + (2 * z.i + 1)]! z.d[fi + (2 * z.i + 1) + 1]! = true) ∨ (ch = 2 * z.i + 1 ∧ ¬ (2 * z.i + 2 < hi ∧ egB z.d[fi + (2 * z.i + 1)]! z.d[fi + (2 * z.i + 1) + 1]! = true)) := .inr ⟨hcv, fun h9 => by first | omega | (have h8 := h9.2; rw [show egB z.d[fi + (2 * z.i + 1)]! z.d[fi + (2 * z.i + 1) + 1]! = false by assumption] at h8; cases h8)⟩
        refine wp_skip ?_
        refine then_normal ?_
        refine c_seq ?_
        refine c_seq ?_
        refine c_region ?_
        refine wl (wl_val hl rfl trivial (r_field hl rfl fld179_0) ?_)
        clear hl a; intro a hl
        refine wl (w_load hl hh rfl trivial one144 rfl (by repeat (first | exact find_head | apply find_tail | apply find_skip)) (by first | rfl) ?_)
        clear hl a; intro a hl
        refine wl (wl_val hl rfl trivial (r_move hl rfl) ?_)
        clear hl a; intro a hl
        refine wl (wl_val hl rfl trivial (r_move hl rfl) ?_)
        clear hl a; intro a hl
        first | refine wl (wl_val hl rfl trivial (r_add hl rfl rfl (by simp only [Fits]; omega)) ?_) | refine wl (wl_val hl rfl trivial (r_addW hl rfl rfl) ?_)
        clear hl a; intro a hl
        refine wl (wl_val hl rfl trivial (r_move hl rfl) ?_)
        clear hl a; intro a hl
        refine wl (wl_val hl rfl trivial (r_move hl rfl) ?_)
        clear hl a; intro a hl
        first | refine wl (wl_val hl rfl trivial (r_add hl rfl rfl (by simp only [Fits]; omega)) ?_) | refine wl (wl_val hl rfl trivial (r_addW hl rfl rfl) ?_)
        clear hl a; intro a hl
        refine wl (w_call hl hh rfl trivial rfl cal62 rfl (less_spec (hE.to hz2) _ _ (fi + z.i) (fi + ch) (by omega) (by omega) (by omega) (by omega)) (by repeat (first | exact keeps_nil | apply keeps_cons (by repeat (first | exact find_head | apply find_tail | apply find_skip)) (by first  | rfl) | exact keeps_self | exact keeps_left | apply keeps_app | apply keeps_mv | apply keeps_skip)) trivial ?_)
        clear hl hh a w; intro vc Fc a w hR hl hh
        obtain ⟨rfl, rfl⟩ := hR
        try simp only [List.cons_append, List.nil_append, List.append_assoc, List.append_nil] at hh
        refine wl (wl_val hl rfl trivial (r_not hl rfl) ?_)
        clear hl a; intro a hl
        refine w_nil ?_
        have hl2 := hl.add (t := 2) (hl.add (t := 3) (hl.add (t := 4) (hl.add (t := 8) (hl.add (t := 9) (hl.add (t := 44) (hl.nil) rfl) rfl) rfl) rfl) rfl) rfl; clear hl; have hl := hl2; clear hl2
        refine then_normal ?_
        refine c_cond hl rfl ?_ ?_
        · intro hc2
          try simp only [decide_eq_true_eq, decide_eq_false_iff_not, Bool.not_eq_true', Bool.not_eq_false', Bool.not_eq_true, Bool.not_eq_false, Bool.and_eq_true, Bool.or_eq_true, Bool.and_eq_false_iff, Bool.or_eq_false_iff, Bool.not_not, ne_eq, Int.not_lt, Int.not_le, Decidable.not_not, beq_iff_eq, bne_iff_ne] at hc2
          have hfin : z.d = Sort.siftDown egB hi fi lo d := by rw [← hz3, sift_eq (by omega) hch, if_neg (by rw [show egB z.d[fi + z.i]! z.d[fi + ch]! = false by assumption]; simp)]
          refine wp_ret ?_
          refine then_ret ?_
          refine blk_ret ?_
          refine then_ret ?_
          refine blk_ret ?_
          refine f_ret0 (F' := [(b, C (fl egc z.d.toList ++ junk) 102), (Bs, C sL 46)]) hl hh rfl (by repeat (first | exact keeps_nil | apply keeps_cons (by repeat (first | exact find_head | apply find_tail | apply find_skip)) (by first  | rfl) | exact keeps_self | exact keeps_left | apply keeps_app | apply keeps_mv | apply keeps_skip)) ?_
          rw [← hfin]
          exact ⟨rfl, rfl, hz2⟩
        · intro hc2
          try simp only [decide_eq_true_eq, decide_eq_false_iff_not, Bool.not_eq_true', Bool.not_eq_false', Bool.not_eq_true, Bool.not_eq_false, Bool.and_eq_true, Bool.or_eq_true, Bool.and_eq_false_iff, Bool.or_eq_false_iff, Bool.not_not, ne_eq, Int.not_lt, Int.not_le, Decidable.not_not, beq_iff_eq, bne_iff_ne] at hc2
          refine wp_skip ?_
          refine then_normal ?_
          refine c_seq ?_
          refine c_region ?_
          refine wl (wl_val hl rfl trivial (r_field hl rfl fld179_1) ?_)
          clear hl a; intro a hl
          refine wl (w_load hl hh rfl trivial one173 rfl (by repeat (first | exact find_head | apply find_tail | apply find_skip)) (by first | rfl) ?_)
          clear hl a; intro a hl
          refine wl (wl_val hl rfl trivial (r_move hl rfl) ?_)
          clear hl a; intro a hl
          refine wl (wl_val hl rfl trivial (r_move hl rfl) ?_)
          clear hl a; intro a hl
          first | refine wl (wl_val hl rfl trivial (r_add hl rfl rfl (by simp only [Fits]; omega)) ?_) | refine wl (wl_val hl rfl trivial (r_addW hl rfl rfl) ?_)
          clear hl a; intro a hl
          refine wl (wl_val hl rfl trivial (r_move hl rfl) ?_)
          clear hl a; intro a hl
          refine wl (wl_val hl rfl trivial (r_move hl rfl) ?_)
          clear hl a; intro a hl
          first | refine wl (wl_val hl rfl trivial (r_add hl rfl rfl (by simp only [Fits]; omega)) ?_) | refine wl (wl_val hl rfl trivial (r_addW hl rfl rfl) ?_)
          clear hl a; intro a hl
          refine wl (w_swap (fi + z.i) (fi + ch) egc_len (by decide) hl hh rfl trivial rfl rfl (by repeat (first | exact find_head | apply find_tail | apply find_skip)) (hE.swz hz2) (by omega) (by omega) (by omega) (by omega) ?_)
          clear hl hh a w; intro a w hl hh
          refine w_nil ?_
          have hl2 := hl.add (t := 2) (hl.add (t := 3) (hl.add (t := 4) (hl.add (t := 9) (hl.nil) rfl) rfl) rfl) rfl; clear hl; have hl := hl2; clear hl2
          refine then_normal ?_
          refine c_region ?_
          refine wl (wl_val hl rfl trivial (r_move hl rfl) ?_)
          clear hl a; intro a hl
          refine wl (wl_val hl rfl trivial (r_assign hl rfl) ?_)
          clear hl a; intro a hl
          refine w_nil ?_
          have hl2 := hl.add (t := 2) (hl.add (t := 3) (hl.add (t := 4) (hl.add (t := 8) (hl.nil) rfl) rfl) rfl) rfl; clear hl; have hl := hl2; clear hl2
          refine blk_normal ?_
          refine then_normal ?_
          refine ⟨⟨Sort.swp z.d (fi + z.i) (fi + ch), ch⟩, (by simp only; omega), ⟨by simp only; omega, by simp only; rw [swp_sz]; exact hz2, by simp only; rw [← hz3, sift_eq (by omega) hch, if_pos (by assumption)]⟩, hl.addE (t := 8) (hl.addE (t := 2) (hl.addE (t := 3) (hl.addE (t := 4) (hl.nil) rfl (by first | rfl | exact congrArg (Value.int .i64) (by first | omega | (simp only; omega)))) rfl (by first | rfl | exact congrArg (Value.int .i64) (by first | omega | (simp only; omega)))) rfl (by first | rfl | exact congrArg (Value.int .i64) (by first | omega | (simp only; omega)))) rfl (by first | rfl | exact congrArg (Value.int .i64) (by first | omega | (simp only; omega))), hh.keep (by repeat (first | exact keeps_nil | apply keeps_cons (by repeat (first | exact find_head | apply find_tail | apply find_skip)) (by first  | rfl) | exact keeps_self | exact keeps_left | apply keeps_app | apply keeps_mv | apply keeps_skip))⟩
    · intro hg1; clear hl; intro hl
      try simp only [decide_eq_true_eq, decide_eq_false_iff_not, Bool.not_eq_true', Bool.not_eq_false', Bool.not_eq_true, Bool.not_eq_false, Bool.and_eq_true, Bool.or_eq_true, Bool.and_eq_false_iff, Bool.or_eq_false_iff, Bool.not_not, ne_eq, Int.not_lt, Int.not_le, Decidable.not_not, beq_iff_eq, bne_iff_ne] at hg1
      refine wl (wl_skip hl rfl ⟨_, _, rfl, rfl, rfl⟩ ?_)
      clear hl a; intro a hl
      refine wl (wl_skip hl rfl ⟨_, _, rfl, rfl, rfl⟩ ?_)
      clear hl a; intro a hl
      refine wl (wl_skip hl rfl ⟨_, _, rfl, rfl, rfl⟩ ?_)
      clear hl a; intro a hl
      refine wl (wl_skip hl rfl ⟨_, _, rfl, rfl, rfl⟩ ?_)
      clear hl a; intro a hl
      refine wl (wl_skip hl rfl ⟨_, _, rfl, rfl, rfl⟩ ?_)
      clear hl a; intro a hl
      refine wl (wl_skip hl rfl ⟨_, _, rfl, rfl, rfl⟩ ?_)
      clear hl a; intro a hl
      refine wl (wl_skip hl rfl ⟨_, _, rfl, rfl, rfl⟩ ?_)
      clear hl a; intro a hl
      refine wl (wl_skip hl rfl ⟨_, _, rfl, rfl, rfl⟩ ?_)
      clear hl a; intro a hl
      refine wl (wl_skip hl rfl ⟨_, _, rfl, rfl, rfl⟩ ?_)
      clear hl a; intro a hl
      refine wl (wl_skip hl rfl ⟨_, _, rfl, rfl, rfl⟩ ?_)
      clear hl a; intro a hl
      refine wl (wl_val hl rfl trivial (r_pickF hl rfl rfl) ?_)
      clear hl a; intro a hl
      refine w_nil ?_
      have hl2 := hl.add (t := 2) (hl.add (t := 3) (hl.add (t := 4) (hl.add (t := 8) (hl.add (t := 9) (hl.add (t := 32) (hl.nil) rfl) rfl) rfl) rfl) rfl) rfl; clear hl; have hl := hl2; clear hl2
      refine then_normal ?_
      refine c_condF hl rfl ?_
      obtain ⟨ch, hcv⟩ : ∃ ch, ch = 2 * z.i + 1 := ⟨_, rfl⟩
      have hch : (ch = 2 * z.i + 2 ∧ 2 * z.i + 2 < hi ∧ egB z.d[fi + (2 * z.i + 1)]! z.d[fi + (2 * z.i + 1) + 1]! = true) ∨ (ch = 2 * z.i + 1 ∧ ¬ (2 * z.i + 2 < hi ∧ egB z.d[fi + (2 * z.i + 1)]! z.d[fi + (2 * z.i + 1) + 1]! = true)) := .inr ⟨hcv, fun h9 => by first | omega | (have h8 := h9.2; rw [show egB z.d[fi + (2 * z.i + 1)]! z.d[fi + (2 * z.i + 1) + 1]! = false by assumption] at h8; cases h8)⟩
      refine wp_skip ?_
      refine then_normal ?_
      refine c_seq ?_
      refine c_seq ?_
      refine c_region ?_
      refine wl (wl_val hl rfl trivial (r_field hl rfl fld179_0) ?_)
      clear hl a; intro a hl
      refine wl (w_load hl hh rfl trivial one144 rfl (by repeat (first | exact find_head | apply find_tail | apply find_skip)) (by first | rfl) ?_)
      clear hl a; intro a hl
      refine wl (wl_val hl rfl trivial (r_move hl rfl) ?_)
      clear hl a; intro a hl
      refine wl (wl_val hl rfl trivial (r_move hl rfl) ?_)
      clear hl a; intro a hl
      first | refine wl (wl_val hl rfl trivial (r_add hl rfl rfl (by simp only [Fits]; omega)) ?_) | refine wl (wl_val hl rfl trivial (r_addW hl rfl rfl) ?_)
      clear hl a; intro a hl
      refine wl (wl_val hl rfl trivial (r_move hl rfl) ?_)
      clear hl a; intro a hl
      refine wl (wl_val hl rfl trivial (r_move hl rfl) ?_)
      clear hl a; intro a hl
      first | refine wl (wl_val hl rfl trivial (r_add hl rfl rfl (by simp only [Fits]; omega)) ?_) | refine wl (wl_val hl rfl trivial (r_addW hl rfl rfl) ?_)
      clear hl a; intro a hl
      refine wl (w_call hl hh rfl trivial rfl cal62 rfl (less_spec (hE.to hz2) _ _ (fi + z.i) (fi + ch) (by omega) (by omega) (by omega) (by omega)) (by repeat (first | exact keeps_nil | apply keeps_cons (by repeat (first | exact find_head | apply find_tail | apply find_skip)) (by first  | rfl) | exact keeps_self | exact keeps_left | apply keeps_app | apply keeps_mv | apply keeps_skip)) trivial ?_)
      clear hl hh a w; intro vc Fc a w hR hl hh
      obtain ⟨rfl, rfl⟩ := hR
      try simp only [List.cons_append, List.nil_append, List.append_assoc, List.append_nil] at hh
      refine wl (wl_val hl rfl trivial (r_not hl rfl) ?_)
      clear hl a; intro a hl
      refine w_nil ?_
      have hl2 := hl.add (t := 2) (hl.add (t := 3) (hl.add (t := 4) (hl.add (t := 8) (hl.add (t := 9) (hl.add (t := 44) (hl.nil) rfl) rfl) rfl) rfl) rfl) rfl; clear hl; have hl := hl2; clear hl2
      refine then_normal ?_
      refine c_cond hl rfl ?_ ?_
      · intro hc2
        try simp only [decide_eq_true_eq, decide_eq_false_iff_not, Bool.not_eq_true', Bool.not_eq_false', Bool.not_eq_true, Bool.not_eq_false, Bool.and_eq_true, Bool.or_eq_true, Bool.and_eq_false_iff, Bool.or_eq_false_iff, Bool.not_not, ne_eq, Int.not_lt, Int.not_le, Decidable.not_not, beq_iff_eq, bne_iff_ne] at hc2
        have hfin : z.d = Sort.siftDown egB hi fi lo d := by rw [← hz3, sift_eq (by omega) hch, if_neg (by rw [show egB z.d[fi + z.i]! z.d[fi + ch]! = false by assumption]; simp)]
        refine wp_ret ?_
        refine then_ret ?_
        refine blk_ret ?_
        refine then_ret ?_
        refine blk_ret ?_
        refine f_ret0 (F' := [(b, C (fl egc z.d.toList ++ junk) 102), (Bs, C sL 46)]) hl hh rfl (by repeat (first | exact keeps_nil | apply keeps_cons (by repeat (first | exact find_head | apply find_tail | apply find_skip)) (by first  | rfl) | exact keeps_self | exact keeps_left | apply keeps_app | apply keeps_mv | apply keeps_skip)) ?_
        rw [← hfin]
        exact ⟨rfl, rfl, hz2⟩
      · intro hc2
        try simp only [decide_eq_true_eq, decide_eq_false_iff_not, Bool.not_eq_true', Bool.not_eq_false', Bool.not_eq_true, Bool.not_eq_false, Bool.and_eq_true, Bool.or_eq_true, Bool.and_eq_false_iff, Bool.or_eq_false_iff, Bool.not_not, ne_eq, Int.not_lt, Int.not_le, Decidable.not_not, beq_iff_eq, bne_iff_ne] at hc2
        refine wp_skip ?_
        refine then_normal ?_
        refine c_seq ?_
        refine c_region ?_
        refine wl (wl_val hl rfl trivial (r_field hl rfl fld179_1) ?_)
        clear hl a; intro a hl
        refine wl (w_load hl hh rfl trivial one173 rfl (by repeat (first | exact find_head | apply find_tail | apply find_skip)) (by first | rfl) ?_)
        clear hl a; intro a hl
        refine wl (wl_val hl rfl trivial (r_move hl rfl) ?_)
        clear hl a; intro a hl
        refine wl (wl_val hl rfl trivial (r_move hl rfl) ?_)
        clear hl a; intro a hl
        first | refine wl (wl_val hl rfl trivial (r_add hl rfl rfl (by simp only [Fits]; omega)) ?_) | refine wl (wl_val hl rfl trivial (r_addW hl rfl rfl) ?_)
        clear hl a; intro a hl
        refine wl (wl_val hl rfl trivial (r_move hl rfl) ?_)
        clear hl a; intro a hl
        refine wl (wl_val hl rfl trivial (r_move hl rfl) ?_)
        clear hl a; intro a hl
        first | refine wl (wl_val hl rfl trivial (r_add hl rfl rfl (by simp only [Fits]; omega)) ?_) | refine wl (wl_val hl rfl trivial (r_addW hl rfl rfl) ?_)
        clear hl a; intro a hl
        refine wl (w_swap (fi + z.i) (fi + ch) egc_len (by decide) hl hh rfl trivial rfl rfl (by repeat (first | exact find_head | apply find_tail | apply find_skip)) (hE.swz hz2) (by omega) (by omega) (by omega) (by omega) ?_)
        clear hl hh a w; intro a w hl hh
        refine w_nil ?_
        have hl2 := hl.add (t := 2) (hl.add (t := 3) (hl.add (t := 4) (hl.add (t := 9) (hl.nil) rfl) rfl) rfl) rfl; clear hl; have hl := hl2; clear hl2
        refine then_normal ?_
        refine c_region ?_
        refine wl (wl_val hl rfl trivial (r_move hl rfl) ?_)
        clear hl a; intro a hl
        refine wl (wl_val hl rfl trivial (r_assign hl rfl) ?_)
        clear hl a; intro a hl
        refine w_nil ?_
        have hl2 := hl.add (t := 2) (hl.add (t := 3) (hl.add (t := 4) (hl.add (t := 8) (hl.nil) rfl) rfl) rfl) rfl; clear hl; have hl := hl2; clear hl2
        refine blk_normal ?_
        refine then_normal ?_
        refine ⟨⟨Sort.swp z.d (fi + z.i) (fi + ch), ch⟩, (by simp only; omega), ⟨by simp only; omega, by simp only; rw [swp_sz]; exact hz2, by simp only; rw [← hz3, sift_eq (by omega) hch, if_pos (by assumption)]⟩, hl.addE (t := 8) (hl.addE (t := 2) (hl.addE (t := 3) (hl.addE (t := 4) (hl.nil) rfl (by first | rfl | exact congrArg (Value.int .i64) (by first | omega | (simp only; omega)))) rfl (by first | rfl | exact congrArg (Value.int .i64) (by first | omega | (simp only; omega)))) rfl (by first | rfl | exact congrArg (Value.int .i64) (by first | omega | (simp only; omega)))) rfl (by first | rfl | exact congrArg (Value.int .i64) (by first | omega | (simp only; omega))), hh.keep (by repeat (first | exact keeps_nil | apply keeps_cons (by repeat (first | exact find_head | apply find_tail | apply find_skip)) (by first  | rfl) | exact keeps_self | exact keeps_left | apply keeps_app | apply keeps_mv | apply keeps_skip))⟩
end Go.Proofs.Qxb6500911aGreatDoor

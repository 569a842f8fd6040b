import Derived.Test.Qxb6500913aFp
import Derived.Test.Qxb6500913aL1
namespace Go.Proofs.Qxb6500913a
open Go.Eng
set_option linter.unusedVariables false
set_option linter.unusedSimpArgs false
theorem cal35 : callable Try.prog 35 = true := by kernel_rfl
attribute [local irreducible] encL

theorem load_y (b : Nat) (f : Nat → Int) (x : Nat) (X : Int) (hX : X = x) (h : 2 ≤ x ∧ x < 4096) : Sp Try.prog 21 #[.pointer (some ⟨b, 0, none⟩), .int .u32 X] [(b, C (encL f) 87)] (fun v F' => v = .tuple #[.int .u64 (word f x), .int .u8 0] ∧ F' = [(b, C (encL f) 87)]) := by
  subst hX
  have := load_spec b f x
  rw [if_pos h] at this
  exact this
theorem store_y (b : Nat) (f : Nat → Int) (x : Nat) (X y : Int) (hX : X = x) (h : 2 ≤ x ∧ x < 4096) : Sp Try.prog 36 #[.pointer (some ⟨b, 0, none⟩), .int .u32 X, .int .u64 y] [(b, C (encL f) 87)] (fun v F' => v = .int .u8 0 ∧ F' = [(b, C (encL (setWord f x y)) 87)]) := by
  subst hX
  have := store_spec b f x y
  rw [if_pos h, storeF, if_pos h] at this
  exact this
theorem alloc_y (b : Nat) (f : Nat → Int) (n : Nat) (X : Int) (hX : X = n) (hG : Good f) : Sp Try.prog 37 #[.pointer (some ⟨b, 0, none⟩), .int .i64 X] [(b, C (encL f) 87)] (fun v F' => v = .tuple #[.int .u64 (allocF f n).ref, .int .u8 (allocF f n).st] ∧ F' = [(b, C (encL (allocF f n).f) 87)]) := by
  subst hX
  exact alloc_spec b f n hG
theorem alloc_w {f : Nat → Int} {fl : Nat → List Nat} {k : Nat} (h : Inv f fl k) (n i : Nat) (hi : i < 4096) : word (allocF f n).f i = word f i := by
  unfold allocF
  by_cases c1 : n = 0 ∨ 32 < n
  · rw [if_pos c1]
  rw [if_neg c1]
  obtain ⟨s, hs⟩ : ∃ s, (n + 1) / 2 * 2 = s := ⟨_, rfl⟩
  simp only [hs]
  by_cases c2 : lst f (s / 2 - 1) ≠ 0
  · rw [if_pos c2]
    obtain ⟨x, hx⟩ : ∃ x : Nat, lst f (s / 2 - 1) = x := by
      have hch := h.chain (s / 2 - 1) (by omega)
      cases hfl : fl (s / 2 - 1) with
      | nil => rw [hfl] at hch; exact absurd hch c2
      | cons y l => rw [hfl] at hch; exact ⟨y, hch.1⟩
    rw [hx]
    obtain ⟨m1, _⟩ := h.pop (by omega) (by omega) (by omega) hx (by omega)
    exact word_A1 f x s i m1 (by omega) hi
  rw [if_neg c2]
  by_cases c3 : fresh f + s ≤ 4096 ∧ boot f < 281474976710655
  · rw [if_pos c3]
    obtain ⟨x, hx, _⟩ := h.fr
    rw [hx]
    exact word_A2 f x s i (by omega) (by omega) hi
  · rw [if_neg c3]

theorem wrap_succ (x : Int) (h : Fits .u64 x) : IntKind.u64.wrap (x + 1) ≠ x := by
  simp only [Fits] at h
  by_cases c : x = 18446744073709551615
  · subst c; decide
  · rw [wrap_fits (by simp only [Fits]; omega)]; omega
/-- a clone that was written to and allocated from is another memory -/
theorem apart {f : Nat → Int} {fl : Nat → List Nat} {k : Nat} (h : Inv f fl k) : same (allocF (setWord f 2 (IntKind.u64.wrap (word f 2 + 1))) 1).f f = false ∧ Inv (setWord f 2 (IntKind.u64.wrap (word f 2 + 1))) fl k ∧ ∃ fl', Inv (allocF (setWord f 2 (IntKind.u64.wrap (word f 2 + 1))) 1).f fl' (k + 1) := by
  have h1 := h.setWord 2 (IntKind.u64.wrap (word f 2 + 1)) (by omega) (fits_wrap _ _)
  refine ⟨?_, h1, h1.alloc 1⟩
  cases hs : same (allocF (setWord f 2 (IntKind.u64.wrap (word f 2 + 1))) 1).f f with
  | false => rfl
  | true =>
    exfalso
    have := (same_iff _ _).1 hs 2 (by omega)
    have hw : (allocF (setWord f 2 (IntKind.u64.wrap (word f 2 + 1))) 1).f 2 = setWord f 2 (IntKind.u64.wrap (word f 2 + 1)) 2 := alloc_w h1 1 2 (by omega)
    rw [hw] at this
    unfold setWord upd at this
    rw [if_pos rfl] at this
    exact wrap_succ _ (h.words 2 (by omega)) this
theorem doF_fits {f : Nat → Int} {fl : Nat → List Nat} {k : Nat} (h : Inv f fl k) (o : MOp) : Fits .u64 (doF f o).ans.w0 ∧ Fits .u64 (doF f o).ans.w1 := by
  have z : Fits .u64 0 := by simp only [Fits]; omega
  unfold doF
  by_cases k0 : o.kd = 0
  · simp only [if_pos k0]
    by_cases c : 2 ≤ o.x ∧ o.x < 4096
    · simp only [if_pos c]; exact ⟨h.words _ (by omega), z⟩
    · simp only [if_neg c]; exact ⟨z, z⟩
  simp only [if_neg k0]
  by_cases k1 : o.kd = 1
  · simp only [if_pos k1]
    by_cases c : 2 ≤ o.x ∧ o.x < 4096
    · simp only [if_pos c]; exact ⟨z, z⟩
    · simp only [if_neg c]; exact ⟨z, z⟩
  simp only [if_neg k1]
  by_cases k2 : o.kd = 2
  · simp only [if_pos k2]
    by_cases c : 2 ≤ o.x ∧ o.x < 4096
    · simp only [if_pos c]; exact ⟨h.words _ (by omega), z⟩
    · simp only [if_neg c]; exact ⟨z, z⟩
  simp only [if_neg k2]
  by_cases k3 : o.kd = 3
  · simp only [if_pos k3]
    by_cases c : 2 ≤ o.x ∧ o.x < 4096
    · simp only [if_pos c]; exact ⟨h.words _ (by omega), z⟩
    · simp only [if_neg c]; exact ⟨z, z⟩
  simp only [if_neg k3]
  by_cases k4 : o.kd = 4
  · simp only [if_pos k4]
    by_cases c : ¬ (2 ≤ o.x ∧ o.x < 4096)
    · simp only [if_pos c]; exact ⟨z, z⟩
    · simp only [if_neg c]
      by_cases c2 : o.x % 2 ≠ 0
      · simp only [if_pos c2]; exact ⟨z, z⟩
      · simp only [if_neg c2]; exact ⟨h.words _ (by omega), h.words _ (by omega)⟩
  simp only [if_neg k4]
  by_cases k5 : o.kd = 5
  · simp only [if_pos k5]
    by_cases c : 32 < o.a
    · simp only [if_pos c]; exact ⟨z, z⟩
    · simp only [if_neg c]
      obtain ⟨r, e, hr⟩ := alloc_ref h o.a
      rw [e]
      exact ⟨fits_nat hr, z⟩
  simp only [if_neg k5]
  by_cases k6 : o.kd = 6
  · simp only [if_pos k6]; exact ⟨z, z⟩
  · simp only [if_neg k6]; exact ⟨z, z⟩
theorem start_ex (sb : Nat) (c : List Value) (T : TypeId) (fr : Nat × Nat) (p : Option Addr) (n cap : Nat) (ops : List MOp) (hn : n = ops.length) (h : Ops sb c p cap ops) :
    ∃ steps G, 0 ≤ G ∧ G ≤ 281474976710655 ∧ steps.length ≤ ops.length ∧ SpK Try.prog 13 #[.slice p n cap] (OpsIn sb c T fr ops) [] (fun u F' => ∃ gb k p n cap, n = steps.length ∧ u = .tuple #[.pointer (some ⟨gb, 0, none⟩), .slice p n cap] ∧ Ops sb c p cap steps ∧
      F' = [(gb, C [.pointer (some ⟨k, 0, none⟩), .slice none 0 0] 41), (k, C (encL (initF G)) 87)]) := by
  subst hn
  cases ops with
  | nil =>
    obtain ⟨G, g0, g1, hnew⟩ := newAt_any 0
    refine ⟨[], G, g0, g1, Nat.le_refl _, spk_weak (start_gen _ _ 0 G (OpsIn sb c T fr []) (spk_weak (boot_nil p cap) (fun _ _ => trivial) (fun _ _ r => r)) hnew (fun w w' hw hp => hp.keep hw)) (fun _ hp => hp) ?_⟩
    rintro u F' ⟨gb, k, rfl, rfl⟩
    exact ⟨gb, k, p, 0, cap, rfl, rfl, h, rfl⟩
  | cons o ops =>
    obtain ⟨so, rfl, h0⟩ := h.at_ (by simp)
    have hle := h.le
    simp only [List.length_cons] at hle
    have hin : ∀ w, OpsIn sb c T fr (o :: ops) w → w.heap[sb]? = some (.cells ⟨c⟩ T fr) := fun w hp => hp (by simp)
    by_cases hk : o.kd = 8
    · have tl : ∀ o', o' ∈ ops → o'.ok := fun o' m => h.ok o' (List.mem_cons_of_mem _ m)
      obtain ⟨G, g0, g1, hnew⟩ := newAt_any o.a
      by_cases h1 : 1 < cap
      · refine ⟨ops, G, g0, g1, by simp, spk_weak (start_gen _ _ o.a G (OpsIn sb c T fr (o :: ops)) (spk_weak (boot_yes so cap sb c T fr o ops hle h0 hk h1) hin (fun _ _ r => r)) hnew (fun w w' hw hp => hp.keep hw)) (fun _ hp => hp) ?_⟩
        rintro u F' ⟨gb, k, rfl, rfl⟩
        refine ⟨gb, k, _, _, cap - 1, by simp, rfl, ⟨by omega, tl, fun h2 => ⟨so + 1 * 6, rfl, fun i q hq => ?_⟩⟩, rfl⟩
        have := h0 (i + 1) q (by simpa using hq)
        rw [show so + 1 * 6 + i * 6 = so + (i + 1) * 6 by omega]
        exact this
      · have e : ops = [] := by cases ops with
          | nil => rfl
          | cons a b => simp only [List.length_cons] at hle; omega
        subst e
        refine ⟨[], G, g0, g1, by simp, spk_weak (start_gen _ _ o.a G (OpsIn sb c T fr (o :: [])) (spk_weak (boot_yes1 so cap sb c T fr o [] hle h0 hk (by simp only [List.length_nil] at hle; omega)) hin (fun _ _ r => r)) hnew (fun w w' hw hp => hp.keep hw)) (fun _ hp => hp) ?_⟩
        rintro u F' ⟨gb, k, rfl, rfl⟩
        exact ⟨gb, k, _, _, 0, rfl, rfl, ⟨Nat.le_refl _, tl, fun h2 => absurd h2 (by simp)⟩, rfl⟩
    · obtain ⟨G, g0, g1, hnew⟩ := newAt_any 0
      refine ⟨o :: ops, G, g0, g1, Nat.le_refl _, spk_weak (start_gen _ _ 0 G (OpsIn sb c T fr (o :: ops)) (spk_weak (boot_no so cap sb c T fr o ops hle h0 hk) hin (fun _ _ r => r)) hnew (fun w w' hw hp => hp.keep hw)) (fun _ hp => hp) ?_⟩
      rintro u F' ⟨gb, k, rfl, rfl⟩
      exact ⟨gb, k, _, _, cap, rfl, rfl, h, rfl⟩


set_option maxHeartbeats 1000000 in
theorem law11 (sb : Nat) (c : List Value) (T : TypeId) (fr : Nat × Nat) (p : Option Addr) (n cap : Nat) (ops : List MOp) (hn : n = ops.length) (hlen : n ≤ 9223372036854775807) (h : Ops sb c p cap ops) : SpK Try.prog 11 #[.slice p n cap] (OpsIn sb c T fr ops) [] (fun v F' => v = .bool true ∧ F' = []) := by
  refine f_enter (args := [.slice p n cap]) Try.func11 rfl Try.ntmps11 rfl ?_
  intro w0 w a hpre hl hh
  obtain ⟨steps, G, hG0, hG1, hst, hS⟩ := start_ex sb c T fr p n cap ops hn h
  simp only [slotsFrom, Nat.reduceAdd] at hl
  refine c_seq ?_
  refine c_region ?_
  refine wl (wl_val hl rfl trivial (r_assign hl rfl) ?_)
  clear hl a; intro a hl
  refine w_nil ?_
  have hl2 := hl.add (t := 0) (hl.nil) rfl; clear hl; have hl := hl2; clear hl2
  refine then_normal ?_
  refine c_seq ?_
  refine c_seq ?_
  refine c_region ?_
  refine wl (wl_val hl rfl trivial (r_move hl rfl) ?_)
  clear hl a; intro a hl
  refine wl (w_call hl hh rfl trivial rfl cal12 rfl (small_spec p n cap hlen) (by repeat (first | exact keeps_nil | apply keeps_cons (by repeat (first | exact find_head | apply find_tail)) (by first  | rfl) | exact keeps_self | exact keeps_left | exact keeps_right | exact keeps_swap | apply keeps_mv)) trivial ?_)
  clear hl hh a w; intro vc Fc a w hR hl hh
  obtain ⟨rfl, rfl⟩ := hR
  try simp only [List.cons_append, List.nil_append] at hh
  refine wl (wl_val hl rfl trivial (r_not hl rfl) ?_)
  clear hl a; intro a hl
  refine w_nil ?_
  have hl2 := hl.add (t := 0) (hl.add (t := 14) (hl.nil) rfl) rfl; clear hl; have hl := hl2; clear hl2
  refine then_normal ?_
  refine c_cond hl rfl ?_ ?_
  · intro hc0
    try simp only [decide_eq_true_eq, decide_eq_false_iff_not, Bool.not_eq_true', Bool.not_eq_false', Bool.not_eq_true, Bool.not_eq_false, Bool.and_eq_true, Bool.or_eq_true, Bool.and_eq_false_iff, Bool.or_eq_false_iff, Bool.not_not, ne_eq, Int.not_lt, Int.not_le, Decidable.not_not, beq_iff_eq, bne_iff_ne] at hc0
    refine c_seq ?_
    refine c_region ?_
    refine wl (wl_val hl rfl trivial (r_assign hl rfl) ?_)
    clear hl a; intro a hl
    refine w_nil ?_
    have hl2 := hl.add (t := 2) (hl.nil) rfl; clear hl; have hl := hl2; clear hl2
    refine then_normal ?_
    refine wp_ret ?_
    refine then_ret ?_
    refine f_ret1 (F' := []) hl hh rfl rfl (by repeat (first | exact keeps_nil | apply keeps_cons (by repeat (first | exact find_head | apply find_tail)) (by first  | rfl) | exact keeps_self | exact keeps_left | exact keeps_right | exact keeps_swap | apply keeps_mv)) ?_
    exact ⟨rfl, rfl⟩
  · intro hc0
    try simp only [decide_eq_true_eq, decide_eq_false_iff_not, Bool.not_eq_true', Bool.not_eq_false', Bool.not_eq_true, Bool.not_eq_false, Bool.and_eq_true, Bool.or_eq_true, Bool.and_eq_false_iff, Bool.or_eq_false_iff, Bool.not_not, ne_eq, Int.not_lt, Int.not_le, Decidable.not_not, beq_iff_eq, bne_iff_ne] at hc0
    refine wp_skip ?_
    refine then_normal ?_
    refine c_seq ?_
    refine c_region ?_
    refine wl (wl_val hl rfl trivial (r_move hl rfl) ?_)
    clear hl a; intro a hl
    refine wl (w_call hl hh rfl trivial rfl cal13 rfl (hS) (by repeat (first | exact keeps_nil | apply keeps_cons (by repeat (first | exact find_head | apply find_tail)) (by first  | rfl) | exact keeps_self | exact keeps_left | exact keeps_right | exact keeps_swap | apply keeps_mv)) (OpsIn.keep (fun b hb => hh.frm.block b hb (by simp)) hpre) ?_)
    clear hl hh a w; intro vc Fc a w hR hl hh
    obtain ⟨gb, b, p2, n2, cap2, hn2, rfl, hO, rfl⟩ := hR
    try simp only [List.cons_append, List.nil_append] at hh
    refine wl (wl_val hl rfl trivial (r_move hl rfl) ?_)
    clear hl a; intro a hl
    refine wl (wl_val hl rfl trivial (r_extract hl rfl (by simp only [List.getElem?_toArray, List.getElem?_cons_zero, List.getElem?_cons_succ]; rfl)) ?_)
    clear hl a; intro a hl
    refine wl (wl_val hl rfl trivial (r_extract hl rfl (by simp only [List.getElem?_toArray, List.getElem?_cons_zero, List.getElem?_cons_succ]; rfl)) ?_)
    clear hl a; intro a hl
    refine wl (wl_val hl rfl trivial (r_assign hl rfl) ?_)
    clear hl a; intro a hl
    refine wl (wl_val hl rfl trivial (r_assign hl rfl) ?_)
    clear hl a; intro a hl
    refine w_nil ?_
    have hl2 := hl.add (t := 0) (hl.add (t := 3) (hl.add (t := 4) (hl.nil) rfl) rfl) rfl; clear hl; have hl := hl2; clear hl2
    refine then_normal ?_
    refine c_seq ?_
    refine c_region ?_
    refine wl (wl_val hl rfl trivial (r_move hl rfl) ?_)
    clear hl a; intro a hl
    refine wl (w_call hl hh rfl trivial rfl cal13 rfl (hS) (by repeat (first | exact keeps_nil | apply keeps_cons (by repeat (first | exact find_head | apply find_tail)) (by first  | rfl) | exact keeps_self | exact keeps_left | exact keeps_right | exact keeps_swap | apply keeps_mv)) (OpsIn.keep (fun b hb => hh.frm.block b hb (by simp)) hpre) ?_)
    clear hl hh a w; intro vc Fc a w hR hl hh
    obtain ⟨hb, b2, p3, n3, cap3, hn3, rfl, hO3, rfl⟩ := hR
    try simp only [List.cons_append, List.nil_append] at hh
    refine wl (wl_val hl rfl trivial (r_move hl rfl) ?_)
    clear hl a; intro a hl
    refine wl (wl_val hl rfl trivial (r_extract hl rfl (by simp only [List.getElem?_toArray, List.getElem?_cons_zero, List.getElem?_cons_succ]; rfl)) ?_)
    clear hl a; intro a hl
    refine wl (wl_val hl rfl trivial (r_extract hl rfl (by simp only [List.getElem?_toArray, List.getElem?_cons_zero, List.getElem?_cons_succ]; rfl)) ?_)
    clear hl a; intro a hl
    refine wl (wl_val hl rfl trivial (r_assign hl rfl) ?_)
    clear hl a; intro a hl
    refine wl (wl_val hl rfl trivial (r_assign hl rfl) ?_)
    clear hl a; intro a hl
    refine w_nil ?_
    have hl2 := hl.add (t := 3) (hl.add (t := 4) (hl.add (t := 5) (hl.nil) rfl) rfl) rfl; clear hl; have hl := hl2; clear hl2
    refine then_normal ?_
    refine c_seq ?_
    refine c_seq ?_
    refine c_region ?_
    refine wl (wl_val hl rfl trivial (r_move hl rfl) ?_)
    clear hl a; intro a hl
    refine wl (wl_val hl rfl trivial (r_lenS hl rfl slc22) ?_)
    clear hl a; intro a hl
    refine wl (wl_val hl rfl trivial (r_move hl rfl) ?_)
    clear hl a; intro a hl
    refine w_nil ?_
    have hl2 := hl.add (t := 3) (hl.add (t := 5) (hl.add (t := 25) (hl.add (t := 26) (hl.add (t := 27) (hl.nil) rfl) rfl) rfl) rfl) rfl; clear hl; have hl := hl2; clear hl2
    refine then_normal ?_
    refine wp_block ?_
    obtain ⟨KS0, hKS0, hk⟩ := (hl.add (t := 3) (hl.add (t := 5) (hl.add (t := 25) (hl.add (t := 26) (hl.nil) rfl) rfl) rfl) rfl).name
    obtain ⟨HS0, hHS0, hh2⟩ := hh.name (keeps_cons (b := gb) (o' := C [.pointer (some ⟨b, 0, none⟩), .slice none 0 0] 41) (by repeat (first | exact find_head | apply find_tail)) (by first | rfl) (keeps_cons (b := b) (o' := C (encL (initF G)) 87) (by repeat (first | exact find_head | apply find_tail)) (by first | rfl) (keeps_cons (b := hb) (o' := C [.pointer (some ⟨b2, 0, none⟩), .slice none 0 0] 41) (by repeat (first | exact find_head | apply find_tail)) (by first | rfl) (keeps_cons (b := b2) (o' := C (encL (initF G)) 87) (by repeat (first | exact find_head | apply find_tail)) (by first | rfl) (keeps_nil)))))
    refine c_loop (α := LS × (Value × List (Nat × Obj))) (fun s => n2 - s.1.i) (fun s a w => (LI n2 s.1 ∧ (Row s.2.1 s.1.rs.length (s.1.rs.map rv64) 1 63 s.2.2)) ∧ Sl 106 ([(27, .int .i64 s.1.i)] ++ KS0) a ∧ Has _ w0 ([(gb, C [.pointer (some ⟨b, 0, none⟩), s.1.rv] 41), (b, C (encL s.1.f) 87), (hb, C [.pointer (some ⟨b2, 0, none⟩), s.2.1] 41), (b2, C (encL s.1.f) 87)] ++ (HS0 ++ s.1.Er ++ s.2.2)) w) (⟨0, initF G, fun _ => [], [], .slice none 0 0, []⟩, (.slice none 0 0, [])) ⟨⟨LI.start G hG0 hG1, Row.nil _ _⟩, hl.addE (t := 27) (hk) rfl (by first | rfl), (by simp only [List.append_nil]; exact hh2)⟩ ?_
    clear hk hh2 hl hh a w
    intro s a w hI
    obtain ⟨⟨hI, hJ⟩, hl, hh⟩ := hI
    subst hKS0; subst hHS0
    simp only [List.cons_append, List.nil_append, List.append_nil] at hl hh
    have hle9 := hI.le
    refine c_seq ?_
    refine c_region ?_
    refine wl (wl_val hl rfl trivial (r_lss hl rfl rfl) ?_)
    clear hl a; intro a hl
    refine w_nil ?_
    have hl2 := hl.add (t := 3) (hl.add (t := 5) (hl.add (t := 25) (hl.add (t := 26) (hl.add (t := 27) (hl.add (t := 28) (hl.nil) rfl) rfl) rfl) rfl) rfl) rfl; clear hl; have hl := hl2; clear hl2
    refine then_normal ?_
    refine c_seq ?_
    refine c_cond hl rfl ?_ ?_
    · intro hc1
      try simp only [decide_eq_true_eq, decide_eq_false_iff_not, Bool.not_eq_true', Bool.not_eq_false', Bool.not_eq_true, Bool.not_eq_false, Bool.and_eq_true, Bool.or_eq_true, Bool.and_eq_false_iff, Bool.or_eq_false_iff, Bool.not_not, ne_eq, Int.not_lt, Int.not_le, Decidable.not_not, beq_iff_eq, bne_iff_ne] at hc1
      have hi : s.1.i < n2 := by omega
      obtain ⟨so, rfl, hat⟩ := hO.at_ (by omega)
      obtain ⟨q, hq⟩ : ∃ q, steps[s.1.i]? = some q := ⟨_, List.getElem?_eq_getElem (by omega)⟩
      have hqv := hat s.1.i q hq
      have hqo := hO.ok q (List.mem_of_getElem? hq)
      have hm := hpre (by omega)
      obtain ⟨kd, x, A, B, E, D⟩ := q
      simp only [MOp.vals] at hqv
      refine wp_skip ?_
      refine then_normal ?_
      refine c_seq ?_
      refine wp_block ?_
      refine c_seq ?_
      refine c_region ?_
      refine wl (wl_val hl rfl trivial (r_indexS hl rfl rfl slc22 (by omega) (by omega) (by first | (simp only [Int.reduceToNat]; rfl) | exact toNat_add1 _ | exact toNat_add2 _ _ | exact toNat_emod _ _ | exact Int.toNat_natCast _ | rfl)) ?_)
      clear hl a; intro a hl
      first | refine wl (w_loadA hl hh rfl trivial agg36 rfl (by repeat (first | exact find_head | apply find_tail)) (by first | (simp only [List.getElem?_cons_zero, List.getElem?_cons_succ, Value.cells, List.take_zero, List.take_succ_cons, List.take_nil, List.drop_zero, List.drop_succ_cons, List.drop_nil, List.length_cons, List.length_nil, List.cons_append, List.nil_append, List.append_nil, Nat.zero_add, Nat.add_zero, Nat.reduceAdd, Nat.reduceBEq, Nat.reduceEqDiff, Nat.ble, BEq.rfl, Bool.and_true, Bool.and_self, cond_true, beq_self_eq_true]; rfl)) (by first | rfl | (simp; done)) ?_) | refine wl (w_loadRA hl hh rfl trivial agg36 rfl hm (by simp) hqv rfl ?_)
      clear hl a; intro a hl
      refine wl (w_alloc hl hh rfl trivial zero36 rfl ?_)
      clear hl hh a w; intro k8 a w hl hh
      refine wl (w_storeA hl hh trivial agg36 rfl rfl (by repeat (first | exact find_head | apply find_tail)) (by first | rfl | (simp; done)) (by first | (simp; done) | (simp; omega)) (by first | rfl | (simp; done)) (by first | (simp only [setL, List.getElem?_cons_zero, List.getElem?_cons_succ, Value.cells, List.take_zero, List.take_succ_cons, List.take_nil, List.drop_zero, List.drop_succ_cons, List.drop_nil, List.length_cons, List.length_nil, List.cons_append, List.nil_append, List.append_nil, Nat.zero_add, Nat.add_zero, Nat.reduceAdd, Nat.reduceBEq, Nat.reduceEqDiff, Nat.ble, BEq.rfl, Bool.and_true, Bool.and_self, cond_true, beq_self_eq_true]; rfl)) ?_)
      clear hh w; intro w hh
      refine w_nil ?_
      have hl2 := hl.add (t := 3) (hl.add (t := 5) (hl.add (t := 8) (hl.add (t := 25) (hl.add (t := 26) (hl.add (t := 27) (hl.nil) rfl) rfl) rfl) rfl) rfl) rfl; clear hl; have hl := hl2; clear hl2
      refine then_normal ?_
      refine c_seq ?_
      refine c_draw [(k8, C [.int .u8 kd, .int .u32 x, .int .u64 A, .int .u64 B, .int .u64 E, .int .u64 D] 36), (hb, C [.pointer (some ⟨b2, 0, none⟩), s.2.1] 41)] [15, 16] mixed hh ?_
      clear hh w; intro w hh
      have hM : Mem [(k8, C [.int .u8 kd, .int .u32 x, .int .u64 A, .int .u64 B, .int .u64 E, .int .u64 D] 36), (hb, C [.pointer (some ⟨b2, 0, none⟩), s.2.1] 41)] w := (by repeat (first | exact Mem.nil | refine Mem.cons hh.mem (by repeat (first | exact find_head | apply find_tail)) ?_ | refine Mem.consR hh (by assumption) (by simp) ?_))
      refine d_take (i := 0) hl rfl (by kernel_rfl) (by kernel_rfl) (by kernel_rfl) (by kernel_rfl) (by kernel_rfl) rfl trivial (fun _ _ _ h => h) hM (fun w hC => r_move hl rfl) rfl ?_
      clear hl a; intro a hl
      refine d_take (i := 1) hl rfl (by kernel_rfl) (by kernel_rfl) (by kernel_rfl) (by kernel_rfl) (by kernel_rfl) rfl trivial (fun _ _ _ h => h) hM (fun w hC => r_loadCA hl rfl agg36 hC (by repeat (first | exact find_head | apply find_tail)) (by first | (simp only [List.getElem?_cons_zero, List.getElem?_cons_succ, Value.cells, List.take_zero, List.take_succ_cons, List.take_nil, List.drop_zero, List.drop_succ_cons, List.drop_nil, List.length_cons, List.length_nil, List.cons_append, List.nil_append, List.append_nil, Nat.zero_add, Nat.add_zero, Nat.reduceAdd, Nat.reduceBEq, Nat.reduceEqDiff, Nat.ble, BEq.rfl, Bool.and_true, Bool.and_self, cond_true, beq_self_eq_true]; rfl)) (by first | rfl | (simp; done))) rfl ?_
      clear hl a; intro a hl
      refine d_take (i := 2) hl rfl (by kernel_rfl) (by kernel_rfl) (by kernel_rfl) (by kernel_rfl) (by kernel_rfl) rfl trivial (fun _ _ _ h => h) hM (fun w hC => r_move hl rfl) rfl ?_
      clear hl a; intro a hl
      refine d_take (i := 3) hl rfl (by kernel_rfl) (by kernel_rfl) (by kernel_rfl) (by kernel_rfl) (by kernel_rfl) rfl trivial (fun _ _ _ h => h) hM (fun w hC => r_nilCheck hl rfl) rfl ?_
      clear hl a; intro a hl
      refine d_take (i := 4) hl rfl (by kernel_rfl) (by kernel_rfl) (by kernel_rfl) (by kernel_rfl) (by kernel_rfl) rfl trivial (fun _ _ _ h => h) hM (fun w hC => r_field hl rfl fld41_1) rfl ?_
      clear hl a; intro a hl
      refine d_take (i := 8) hl rfl (by kernel_rfl) (by kernel_rfl) (by kernel_rfl) (by kernel_rfl) (by kernel_rfl) rfl trivial (fun _ _ _ h => h) hM (fun w hC => r_move hl rfl) rfl ?_
      clear hl a; intro a hl
      refine d_take (i := 9) hl rfl (by kernel_rfl) (by kernel_rfl) (by kernel_rfl) (by kernel_rfl) (by kernel_rfl) rfl trivial (fun _ _ _ h => h) hM (fun w hC => r_loadCA hl rfl agg36 hC (by repeat (first | exact find_head | apply find_tail)) (by first | (simp only [List.getElem?_cons_zero, List.getElem?_cons_succ, Value.cells, List.take_zero, List.take_succ_cons, List.take_nil, List.drop_zero, List.drop_succ_cons, List.drop_nil, List.length_cons, List.length_nil, List.cons_append, List.nil_append, List.append_nil, Nat.zero_add, Nat.add_zero, Nat.reduceAdd, Nat.reduceBEq, Nat.reduceEqDiff, Nat.ble, BEq.rfl, Bool.and_true, Bool.and_self, cond_true, beq_self_eq_true]; rfl)) (by first | rfl | (simp; done))) rfl ?_
      clear hl a; intro a hl
      refine d_take (i := 10) hl rfl (by kernel_rfl) (by kernel_rfl) (by kernel_rfl) (by kernel_rfl) (by kernel_rfl) rfl trivial (fun _ _ _ h => h) hM (fun w hC => r_move hl rfl) rfl ?_
      clear hl a; intro a hl
      refine d_take (i := 11) hl rfl (by kernel_rfl) (by kernel_rfl) (by kernel_rfl) (by kernel_rfl) (by kernel_rfl) rfl trivial (fun _ _ _ h => h) hM (fun w hC => r_nilCheck hl rfl) rfl ?_
      clear hl a; intro a hl
      refine d_take (i := 12) hl rfl (by kernel_rfl) (by kernel_rfl) (by kernel_rfl) (by kernel_rfl) (by kernel_rfl) rfl trivial (fun _ _ _ h => h) hM (fun w hC => r_field hl rfl fld41_1) rfl ?_
      clear hl a; intro a hl
      refine d_take (i := 13) hl rfl (by kernel_rfl) (by kernel_rfl) (by kernel_rfl) (by kernel_rfl) (by kernel_rfl) rfl trivial (fun _ _ _ h => h) hM (fun w hC => r_loadC hl rfl one39 hC (by repeat (first | exact find_head | apply find_tail)) (by first | rfl)) rfl ?_
      clear hl a; intro a hl
      refine d_one (i := 5) (by kernel_rfl) rfl ?_
      try clear hM
      refine id (w_load hl hh rfl trivial one39 rfl (by repeat (first | exact find_head | apply find_tail)) (by first | rfl) ?_)
      clear hl a; intro a hl
      have hM : Mem [(k8, C [.int .u8 kd, .int .u32 x, .int .u64 A, .int .u64 B, .int .u64 E, .int .u64 D] 36), (hb, C [.pointer (some ⟨b2, 0, none⟩), s.2.1] 41)] w := (by repeat (first | exact Mem.nil | refine Mem.cons hh.mem (by repeat (first | exact find_head | apply find_tail)) ?_ | refine Mem.consR hh (by assumption) (by simp) ?_))
      refine d_step (fun _ => hM) ?_
      refine d_one (i := 6) (by kernel_rfl) rfl ?_
      try clear hM
      refine id (w_call hl hh rfl trivial rfl cal16 rfl (plain_spec s.1.rs s.1.rv s.1.Er hI.row (by have := hI.len; omega) ⟨kd, x, A, B, E, D⟩) (by repeat (first | exact keeps_nil | apply keeps_cons (by repeat (first | exact find_head | apply find_tail)) (by first  | rfl) | exact keeps_self | exact keeps_left | exact keeps_right | exact keeps_swap | apply keeps_mv)) trivial ?_)
      clear hl hh a w; intro vc Fc a w hR hl hh
      obtain ⟨rfl, rfl⟩ := hR
      try simp only [List.cons_append, List.nil_append] at hh
      replace hh := hh.comm; simp only [List.cons_append, List.nil_append, List.append_nil] at hh; have hok : (plainF s.1.rs ⟨kd, x, A, B, E, D⟩).ok := plainF_ok hqo hI.ok; generalize hp2 : plainF s.1.rs ⟨kd, x, A, B, E, D⟩ = o2 at hl hok; obtain ⟨kd2, x2, A2, B2, E2, D2⟩ := o2; simp only [MOp.vals] at hl; obtain ⟨fl2, hI2⟩ := hI.inv.do hok
      have hM : Mem [(k8, C [.int .u8 kd, .int .u32 x, .int .u64 A, .int .u64 B, .int .u64 E, .int .u64 D] 36), (hb, C [.pointer (some ⟨b2, 0, none⟩), s.2.1] 41)] w := (by repeat (first | exact Mem.nil | refine Mem.cons hh.mem (by repeat (first | exact find_head | apply find_tail)) ?_ | refine Mem.consR hh (by assumption) (by simp) ?_))
      refine d_step (fun _ => hM) ?_
      refine d_one (i := 7) (by kernel_rfl) rfl ?_
      try clear hM
      refine id (w_call hl hh rfl trivial rfl cal17 rfl (gdo_spec gb b hI.inv (by omega) s.1.rs s.1.rv s.1.Er hI.row (by have := hI.len; omega) ⟨kd2, x2, A2, B2, E2, D2⟩ hok) (by repeat (first | exact keeps_nil | apply keeps_cons (by repeat (first | exact find_head | apply find_tail)) (by first  | rfl) | exact keeps_self | exact keeps_left | exact keeps_right | exact keeps_swap | apply keeps_mv)) trivial ?_)
      clear hl hh a w; intro vc Fc a w hR hl hh
      obtain ⟨rfl, rv2, E3, hR2, rfl⟩ := hR
      try simp only [List.cons_append, List.nil_append] at hh
      replace hh := has_tail2 hh; simp only [List.cons_append, List.nil_append, List.append_nil] at hh; have hts := doF_st s.1.f ⟨kd2, x2, A2, B2, E2, D2⟩; generalize hr : (doF s.1.f ⟨kd2, x2, A2, B2, E2, D2⟩).ans = r at hl hts; obtain ⟨t, pp, u, u1⟩ := r; simp only [Ans.l] at hl; simp only at hts; obtain ⟨hft0, hft1⟩ := doF_fits hI.inv ⟨kd2, x2, A2, B2, E2, D2⟩; rw [hr] at hft0 hft1; simp only [Fits] at hft0 hft1
      have hM : Mem [(k8, C [.int .u8 kd, .int .u32 x, .int .u64 A, .int .u64 B, .int .u64 E, .int .u64 D] 36), (hb, C [.pointer (some ⟨b2, 0, none⟩), s.2.1] 41)] w := (by repeat (first | exact Mem.nil | refine Mem.cons hh.mem (by repeat (first | exact find_head | apply find_tail)) ?_ | refine Mem.consR hh (by assumption) (by simp) ?_))
      refine d_step (fun _ => hM) ?_
      refine d_one (i := 14) (by kernel_rfl) rfl ?_
      try clear hM
      refine id (w_call hl hh rfl trivial rfl cal16 rfl (plain_spec s.1.rs s.2.1 s.2.2 hJ (by have := hI.len; omega) ⟨kd, x, A, B, E, D⟩) (by repeat (first | exact keeps_nil | apply keeps_cons (by repeat (first | exact find_head | apply find_tail)) (by first  | rfl) | exact keeps_self | exact keeps_left | exact keeps_right | exact keeps_swap | apply keeps_mv)) trivial ?_)
      clear hl hh a w; intro vc Fc a w hR hl hh
      obtain ⟨rfl, rfl⟩ := hR
      try simp only [List.cons_append, List.nil_append] at hh
      replace hh := hh.comm; simp only [List.cons_append, List.nil_append, List.append_nil] at hh; rw [hp2] at hl; simp only [MOp.vals] at hl
      have hM : Mem [(k8, C [.int .u8 kd, .int .u32 x, .int .u64 A, .int .u64 B, .int .u64 E, .int .u64 D] 36), (hb, C [.pointer (some ⟨b2, 0, none⟩), s.2.1] 41)] w := (by repeat (first | exact Mem.nil | refine Mem.cons hh.mem (by repeat (first | exact find_head | apply find_tail)) ?_ | refine Mem.consR hh (by assumption) (by simp) ?_))
      refine d_step (fun _ => hM) ?_
      refine d_one (i := 15) (by kernel_rfl) rfl ?_
      try clear hM
      refine id (w_call hl hh rfl trivial rfl cal17 rfl (gdo_spec hb b2 hI.inv (by omega) s.1.rs s.2.1 s.2.2 hJ (by have := hI.len; omega) ⟨kd2, x2, A2, B2, E2, D2⟩ hok) (by repeat (first | exact keeps_nil | apply keeps_cons (by repeat (first | exact find_head | apply find_tail)) (by first  | rfl) | exact keeps_self | exact keeps_left | exact keeps_right | exact keeps_swap | apply keeps_mv)) trivial ?_)
      clear hl hh a w; intro vc Fc a w hR hl hh
      obtain ⟨rfl, rv4, E4, hN, rfl⟩ := hR
      try simp only [List.cons_append, List.nil_append] at hh
      replace hh := has_tail2 hh; simp only [List.cons_append, List.nil_append, List.append_nil] at hh; rw [hr] at hl; simp only [Ans.l] at hl
      refine d_step (fun h => absurd h (by decide)) ?_
      refine d_takeL (i := 16) hl rfl (by kernel_rfl) (by kernel_rfl) (by kernel_rfl) (by kernel_rfl) (by kernel_rfl) rfl trivial (fun _ _ _ h => h) (fun w => r_neqA hl rfl rfl eqf44 shp44 (by simp only [unlitL, unlit]; rfl) (by simp only [unlitL, unlit]; rfl) (by first | exact ⟨trivial⟩ | (refine ⟨?_⟩; simp [LitsOk, litOk, Fits]; done) | (refine ⟨?_⟩; simp [LitsOk, litOk, Fits]; omega)) (by first | exact ⟨trivial⟩ | (refine ⟨?_⟩; simp [LitsOk, litOk, Fits]; done) | (refine ⟨?_⟩; simp [LitsOk, litOk, Fits]; omega))) rfl ?_
      clear hl a; intro a hl
      refine d_done (by kernel_rfl) ?_
      try clear hM
      have hl2 := hl.add (t := 3) (hl.add (t := 5) (hl.add (t := 25) (hl.add (t := 26) (hl.add (t := 27) (hl.add (t := 47) (hl.nil) rfl) rfl) rfl) rfl) rfl) rfl; clear hl; have hl := hl2; clear hl2
      refine then_normal ?_
      refine c_cond hl rfl ?_ ?_
      · intro hc2
        try simp only [decide_eq_true_eq, decide_eq_false_iff_not, Bool.not_eq_true', Bool.not_eq_false', Bool.not_eq_true, Bool.not_eq_false, Bool.and_eq_true, Bool.or_eq_true, Bool.and_eq_false_iff, Bool.or_eq_false_iff, Bool.not_not, ne_eq, Int.not_lt, Int.not_le, Decidable.not_not, beq_iff_eq, bne_iff_ne] at hc2
        exfalso; simp [eqLits, litBeq] at hc2
      · intro hc2
        try simp only [decide_eq_true_eq, decide_eq_false_iff_not, Bool.not_eq_true', Bool.not_eq_false', Bool.not_eq_true, Bool.not_eq_false, Bool.and_eq_true, Bool.or_eq_true, Bool.and_eq_false_iff, Bool.or_eq_false_iff, Bool.not_not, ne_eq, Int.not_lt, Int.not_le, Decidable.not_not, beq_iff_eq, bne_iff_ne] at hc2
        refine wp_skip ?_
        refine blk_normal ?_
        refine then_normal ?_
        refine c_region ?_
        first | refine wl (wl_val hl rfl trivial (r_add hl rfl rfl (by simp only [Fits]; omega)) ?_) | refine wl (wl_val hl rfl trivial (r_addW hl rfl rfl) ?_)
        clear hl a; intro a hl
        refine wl (wl_val hl rfl trivial (r_move hl rfl) ?_)
        clear hl a; intro a hl
        refine w_nil ?_
        have hl2 := hl.add (t := 3) (hl.add (t := 5) (hl.add (t := 25) (hl.add (t := 26) (hl.add (t := 27) (hl.nil) rfl) rfl) rfl) rfl) rfl; clear hl; have hl := hl2; clear hl2
        refine then_normal ?_
        refine ⟨(⟨s.1.i + 1, (doF s.1.f ⟨kd2, x2, A2, B2, E2, D2⟩).f, fl2, keepF s.1.rs ⟨kd2, x2, A2, B2, E2, D2⟩ (doF s.1.f ⟨kd2, x2, A2, B2, E2, D2⟩).ans, rv2, E3⟩, (rv4, E4)), (by dsimp only; omega), ⟨hI.next hi hok hI2 hR2, hN⟩, hl.addE (t := 27) (hl.addE (t := 3) (hl.addE (t := 5) (hl.addE (t := 25) (hl.addE (t := 26) (hl.nil) rfl (by first | rfl | rfl)) rfl (by first | rfl | rfl)) rfl (by first | rfl | rfl)) rfl (by first | rfl | rfl)) rfl (by first | rfl | rfl), (by simp only [List.cons_append, List.nil_append, List.append_nil]; exact hh.keep (by repeat (first | exact keeps_nil | apply keeps_cons (by repeat (first | exact find_head | apply find_tail)) (by first  | rfl) | exact keeps_self | exact keeps_left | exact keeps_right | exact keeps_swap | apply keeps_mv)))⟩
    · intro hc1
      try simp only [decide_eq_true_eq, decide_eq_false_iff_not, Bool.not_eq_true', Bool.not_eq_false', Bool.not_eq_true, Bool.not_eq_false, Bool.and_eq_true, Bool.or_eq_true, Bool.and_eq_false_iff, Bool.or_eq_false_iff, Bool.not_not, ne_eq, Int.not_lt, Int.not_le, Decidable.not_not, beq_iff_eq, bne_iff_ne] at hc1
      refine wp_exit ?_
      refine then_exit ?_
      refine then_exit ?_
      refine blk_exit ?_
      refine then_normal ?_
      refine c_seq ?_
      refine c_seq ?_
      refine c_draw [(gb, C [.pointer (some ⟨b, 0, none⟩), s.1.rv] 41), (hb, C [.pointer (some ⟨b2, 0, none⟩), s.2.1] 41)] [20, 21, 22] mixed hh ?_
      clear hh w; intro w hh
      have hM : Mem [(gb, C [.pointer (some ⟨b, 0, none⟩), s.1.rv] 41), (hb, C [.pointer (some ⟨b2, 0, none⟩), s.2.1] 41)] w := (by repeat (first | exact Mem.nil | refine Mem.cons hh.mem (by repeat (first | exact find_head | apply find_tail)) ?_ | refine Mem.consR hh (by assumption) (by simp) ?_))
      refine d_take (i := 0) hl rfl (by kernel_rfl) (by kernel_rfl) (by kernel_rfl) (by kernel_rfl) (by kernel_rfl) rfl trivial (fun _ _ _ h => h) hM (fun w hC => r_move hl rfl) rfl ?_
      clear hl a; intro a hl
      refine d_take (i := 1) hl rfl (by kernel_rfl) (by kernel_rfl) (by kernel_rfl) (by kernel_rfl) (by kernel_rfl) rfl trivial (fun _ _ _ h => h) hM (fun w hC => r_nilCheck hl rfl) rfl ?_
      clear hl a; intro a hl
      refine d_take (i := 2) hl rfl (by kernel_rfl) (by kernel_rfl) (by kernel_rfl) (by kernel_rfl) (by kernel_rfl) rfl trivial (fun _ _ _ h => h) hM (fun w hC => r_field hl rfl fld41_0) rfl ?_
      clear hl a; intro a hl
      refine d_take (i := 3) hl rfl (by kernel_rfl) (by kernel_rfl) (by kernel_rfl) (by kernel_rfl) (by kernel_rfl) rfl trivial (fun _ _ _ h => h) hM (fun w hC => r_loadC hl rfl one38 hC (by repeat (first | exact find_head | apply find_tail)) (by first | rfl)) rfl ?_
      clear hl a; intro a hl
      refine d_take (i := 4) hl rfl (by kernel_rfl) (by kernel_rfl) (by kernel_rfl) (by kernel_rfl) (by kernel_rfl) rfl trivial (fun _ _ _ h => h) hM (fun w hC => r_move hl rfl) rfl ?_
      clear hl a; intro a hl
      refine d_take (i := 5) hl rfl (by kernel_rfl) (by kernel_rfl) (by kernel_rfl) (by kernel_rfl) (by kernel_rfl) rfl trivial (fun _ _ _ h => h) hM (fun w hC => r_nilCheck hl rfl) rfl ?_
      clear hl a; intro a hl
      refine d_take (i := 6) hl rfl (by kernel_rfl) (by kernel_rfl) (by kernel_rfl) (by kernel_rfl) (by kernel_rfl) rfl trivial (fun _ _ _ h => h) hM (fun w hC => r_field hl rfl fld41_0) rfl ?_
      clear hl a; intro a hl
      refine d_take (i := 7) hl rfl (by kernel_rfl) (by kernel_rfl) (by kernel_rfl) (by kernel_rfl) (by kernel_rfl) rfl trivial (fun _ _ _ h => h) hM (fun w hC => r_loadC hl rfl one38 hC (by repeat (first | exact find_head | apply find_tail)) (by first | rfl)) rfl ?_
      clear hl a; intro a hl
      refine d_one (i := 8) (by kernel_rfl) rfl ?_
      try clear hM
      refine id (w_call hl hh rfl trivial rfl cal26 rfl (equal_spec b b2 s.1.f s.1.f (hI.inv.wf (by omega)) (hI.inv.wf (by omega))) (by repeat (first | exact keeps_nil | apply keeps_cons (by repeat (first | exact find_head | apply find_tail)) (by first  | rfl) | exact keeps_self | exact keeps_left | exact keeps_right | exact keeps_swap | apply keeps_mv)) trivial ?_)
      clear hl hh a w; intro vc Fc a w hR hl hh
      obtain ⟨rfl, rfl⟩ := hR
      try simp only [List.cons_append, List.nil_append] at hh
      rw [same_self] at hl
      have hM : Mem [(gb, C [.pointer (some ⟨b, 0, none⟩), s.1.rv] 41), (hb, C [.pointer (some ⟨b2, 0, none⟩), s.2.1] 41)] w := (by repeat (first | exact Mem.nil | refine Mem.cons hh.mem (by repeat (first | exact find_head | apply find_tail)) ?_ | refine Mem.consR hh (by assumption) (by simp) ?_))
      refine d_step (fun _ => hM) ?_
      refine d_take (i := 9) hl rfl (by kernel_rfl) (by kernel_rfl) (by kernel_rfl) (by kernel_rfl) (by kernel_rfl) rfl trivial (fun _ _ _ h => h) hM (fun w hC => r_not hl rfl) rfl ?_
      clear hl a; intro a hl
      refine d_take (i := 10) hl rfl (by kernel_rfl) (by kernel_rfl) (by kernel_rfl) (by kernel_rfl) (by kernel_rfl) rfl trivial (fun _ _ _ h => h) hM (fun w hC => r_move hl rfl) rfl ?_
      clear hl a; intro a hl
      refine sl_split (t := 59) hl rfl ?_ ?_
      · intro hg1; clear hl; intro hl
        try simp only [decide_eq_true_eq, decide_eq_false_iff_not, Bool.not_eq_true', Bool.not_eq_false', Bool.not_eq_true, Bool.not_eq_false, Bool.and_eq_true, Bool.or_eq_true, Bool.and_eq_false_iff, Bool.or_eq_false_iff, Bool.not_not, ne_eq, Int.not_lt, Int.not_le, Decidable.not_not, beq_iff_eq, bne_iff_ne] at hg1
        exfalso; first | omega | (simp at *; done) | (simp at *; omega)
      · intro hg1; clear hl; intro hl
        try simp only [decide_eq_true_eq, decide_eq_false_iff_not, Bool.not_eq_true', Bool.not_eq_false', Bool.not_eq_true, Bool.not_eq_false, Bool.and_eq_true, Bool.or_eq_true, Bool.and_eq_false_iff, Bool.or_eq_false_iff, Bool.not_not, ne_eq, Int.not_lt, Int.not_le, Decidable.not_not, beq_iff_eq, bne_iff_ne] at hg1
        refine d_take (i := 11) hl rfl (by kernel_rfl) (by kernel_rfl) (by kernel_rfl) (by kernel_rfl) (by kernel_rfl) rfl ⟨_, _, rfl, rfl, rfl⟩ (fun _ _ _ h => h) hM (fun w hC => r_move hl rfl) rfl ?_
        clear hl a; intro a hl
        refine d_take (i := 12) hl rfl (by kernel_rfl) (by kernel_rfl) (by kernel_rfl) (by kernel_rfl) (by kernel_rfl) rfl ⟨_, _, rfl, rfl, rfl⟩ (fun _ _ _ h => h) hM (fun w hC => r_nilCheck hl rfl) rfl ?_
        clear hl a; intro a hl
        refine d_take (i := 13) hl rfl (by kernel_rfl) (by kernel_rfl) (by kernel_rfl) (by kernel_rfl) (by kernel_rfl) rfl ⟨_, _, rfl, rfl, rfl⟩ (fun _ _ _ h => h) hM (fun w hC => r_field hl rfl fld41_0) rfl ?_
        clear hl a; intro a hl
        refine d_take (i := 14) hl rfl (by kernel_rfl) (by kernel_rfl) (by kernel_rfl) (by kernel_rfl) (by kernel_rfl) rfl ⟨_, _, rfl, rfl, rfl⟩ (fun _ _ _ h => h) hM (fun w hC => r_loadC hl rfl one38 hC (by repeat (first | exact find_head | apply find_tail)) (by first | rfl)) rfl ?_
        clear hl a; intro a hl
        refine d_take (i := 16) hl rfl (by kernel_rfl) (by kernel_rfl) (by kernel_rfl) (by kernel_rfl) (by kernel_rfl) rfl ⟨_, _, rfl, rfl, rfl⟩ (fun _ _ _ h => h) hM (fun w hC => r_move hl rfl) rfl ?_
        clear hl a; intro a hl
        refine d_take (i := 17) hl rfl (by kernel_rfl) (by kernel_rfl) (by kernel_rfl) (by kernel_rfl) (by kernel_rfl) rfl ⟨_, _, rfl, rfl, rfl⟩ (fun _ _ _ h => h) hM (fun w hC => r_nilCheck hl rfl) rfl ?_
        clear hl a; intro a hl
        refine d_take (i := 18) hl rfl (by kernel_rfl) (by kernel_rfl) (by kernel_rfl) (by kernel_rfl) (by kernel_rfl) rfl ⟨_, _, rfl, rfl, rfl⟩ (fun _ _ _ h => h) hM (fun w hC => r_field hl rfl fld41_0) rfl ?_
        clear hl a; intro a hl
        refine d_take (i := 19) hl rfl (by kernel_rfl) (by kernel_rfl) (by kernel_rfl) (by kernel_rfl) (by kernel_rfl) rfl ⟨_, _, rfl, rfl, rfl⟩ (fun _ _ _ h => h) hM (fun w hC => r_loadC hl rfl one38 hC (by repeat (first | exact find_head | apply find_tail)) (by first | rfl)) rfl ?_
        clear hl a; intro a hl
        refine d_one (i := 15) (by kernel_rfl) rfl ?_
        try clear hM
        refine id (w_call hl hh rfl ⟨_, _, rfl, rfl, rfl⟩ rfl cal35 rfl (fp_spec b s.1.f) (by repeat (first | exact keeps_nil | apply keeps_cons (by repeat (first | exact find_head | apply find_tail)) (by first  | rfl) | exact keeps_self | exact keeps_left | exact keeps_right | exact keeps_swap | apply keeps_mv)) trivial ?_)
        clear hl hh a w; intro vc Fc a w hR hl hh
        obtain ⟨rfl, rfl⟩ := hR
        try simp only [List.cons_append, List.nil_append] at hh
        have hM : Mem [(gb, C [.pointer (some ⟨b, 0, none⟩), s.1.rv] 41), (hb, C [.pointer (some ⟨b2, 0, none⟩), s.2.1] 41)] w := (by repeat (first | exact Mem.nil | refine Mem.cons hh.mem (by repeat (first | exact find_head | apply find_tail)) ?_ | refine Mem.consR hh (by assumption) (by simp) ?_))
        refine d_step (fun _ => hM) ?_
        refine d_one (i := 20) (by kernel_rfl) rfl ?_
        try clear hM
        refine id (w_call hl hh rfl ⟨_, _, rfl, rfl, rfl⟩ rfl cal35 rfl (fp_spec b2 s.1.f) (by repeat (first | exact keeps_nil | apply keeps_cons (by repeat (first | exact find_head | apply find_tail)) (by first  | rfl) | exact keeps_self | exact keeps_left | exact keeps_right | exact keeps_swap | apply keeps_mv)) trivial ?_)
        clear hl hh a w; intro vc Fc a w hR hl hh
        obtain ⟨rfl, rfl⟩ := hR
        try simp only [List.cons_append, List.nil_append] at hh
        refine d_step (fun h => absurd h (by decide)) ?_
        refine d_takeL (i := 21) hl rfl (by kernel_rfl) (by kernel_rfl) (by kernel_rfl) (by kernel_rfl) (by kernel_rfl) rfl ⟨_, _, rfl, rfl, rfl⟩ (fun _ _ _ h => h) (fun w => r_neq hl rfl rfl) rfl ?_
        clear hl a; intro a hl
        refine d_takeL (i := 22) hl rfl (by kernel_rfl) (by kernel_rfl) (by kernel_rfl) (by kernel_rfl) (by kernel_rfl) rfl trivial (fun _ _ _ h => h) (fun w => r_pickF hl rfl rfl) rfl ?_
        clear hl a; intro a hl
        refine d_done (by kernel_rfl) ?_
        try clear hM
        have hl2 := hl.add (t := 3) (hl.add (t := 5) (hl.add (t := 71) (hl.nil) rfl) rfl) rfl; clear hl; have hl := hl2; clear hl2
        refine then_normal ?_
        refine c_cond hl rfl ?_ ?_
        · intro hc3
          try simp only [decide_eq_true_eq, decide_eq_false_iff_not, Bool.not_eq_true', Bool.not_eq_false', Bool.not_eq_true, Bool.not_eq_false, Bool.and_eq_true, Bool.or_eq_true, Bool.and_eq_false_iff, Bool.or_eq_false_iff, Bool.not_not, ne_eq, Int.not_lt, Int.not_le, Decidable.not_not, beq_iff_eq, bne_iff_ne] at hc3
          exfalso; first | omega | (simp at *; done) | (simp at *; omega)
        · intro hc3
          try simp only [decide_eq_true_eq, decide_eq_false_iff_not, Bool.not_eq_true', Bool.not_eq_false', Bool.not_eq_true, Bool.not_eq_false, Bool.and_eq_true, Bool.or_eq_true, Bool.and_eq_false_iff, Bool.or_eq_false_iff, Bool.not_not, ne_eq, Int.not_lt, Int.not_le, Decidable.not_not, beq_iff_eq, bne_iff_ne] at hc3
          refine wp_skip ?_
          refine then_normal ?_
          refine c_seq ?_
          refine c_region ?_
          refine wl (wl_val hl rfl trivial (r_move hl rfl) ?_)
          clear hl a; intro a hl
          refine wl (wl_val hl rfl trivial (r_nilCheck hl rfl) ?_)
          clear hl a; intro a hl
          refine wl (wl_val hl rfl trivial (r_field hl rfl fld41_0) ?_)
          clear hl a; intro a hl
          refine wl (w_load hl hh rfl trivial one38 rfl (by repeat (first | exact find_head | apply find_tail)) (by first | rfl) ?_)
          clear hl a; intro a hl
          refine wl (w_call hl hh rfl trivial rfl cal25 rfl (clone_spec b s.1.f) (by repeat (first | exact keeps_nil | apply keeps_cons (by repeat (first | exact find_head | apply find_tail)) (by first  | rfl) | exact keeps_self | exact keeps_left | exact keeps_right | exact keeps_swap | apply keeps_mv)) trivial ?_)
          clear hl hh a w; intro vc Fc a w hR hl hh
          obtain ⟨kc, rfl, rfl⟩ := hR
          try simp only [List.cons_append, List.nil_append] at hh
          obtain ⟨hap, hIw, fl3, hI3⟩ := apart hI.inv
          refine wl (wl_val hl rfl trivial (r_assign hl rfl) ?_)
          clear hl a; intro a hl
          refine w_nil ?_
          have hl2 := hl.add (t := 3) (hl.add (t := 5) (hl.add (t := 9) (hl.nil) rfl) rfl) rfl; clear hl; have hl := hl2; clear hl2
          refine then_normal ?_
          refine c_seq ?_
          refine c_region ?_
          refine wl (wl_val hl rfl trivial (r_move hl rfl) ?_)
          clear hl a; intro a hl
          refine wl (w_call hl hh rfl trivial rfl cal21 rfl (load_y kc s.1.f 2 _ rfl (by omega)) (by repeat (first | exact keeps_nil | apply keeps_cons (by repeat (first | exact find_head | apply find_tail)) (by first  | rfl) | exact keeps_self | exact keeps_left | exact keeps_right | exact keeps_swap | apply keeps_mv)) trivial ?_)
          clear hl hh a w; intro vc Fc a w hR hl hh
          obtain ⟨rfl, rfl⟩ := hR
          try simp only [List.cons_append, List.nil_append] at hh
          refine wl (wl_val hl rfl trivial (r_move hl rfl) ?_)
          clear hl a; intro a hl
          refine wl (wl_val hl rfl trivial (r_extract hl rfl (by simp only [List.getElem?_toArray, List.getElem?_cons_zero, List.getElem?_cons_succ]; rfl)) ?_)
          clear hl a; intro a hl
          refine wl (wl_val hl rfl trivial (r_extract hl rfl (by simp only [List.getElem?_toArray, List.getElem?_cons_zero, List.getElem?_cons_succ]; rfl)) ?_)
          clear hl a; intro a hl
          refine wl (wl_val hl rfl trivial (r_assign hl rfl) ?_)
          clear hl a; intro a hl
          refine wl (wl_val hl rfl trivial (r_assign hl rfl) ?_)
          clear hl a; intro a hl
          refine w_nil ?_
          have hl2 := hl.add (t := 3) (hl.add (t := 5) (hl.add (t := 9) (hl.add (t := 10) (hl.nil) rfl) rfl) rfl) rfl; clear hl; have hl := hl2; clear hl2
          refine then_normal ?_
          refine c_seq ?_
          refine c_region ?_
          refine wl (wl_val hl rfl trivial (r_move hl rfl) ?_)
          clear hl a; intro a hl
          refine wl (wl_val hl rfl trivial (r_move hl rfl) ?_)
          clear hl a; intro a hl
          first | refine wl (wl_val hl rfl trivial (r_add hl rfl rfl (by simp only [Fits]; omega)) ?_) | refine wl (wl_val hl rfl trivial (r_addW hl rfl rfl) ?_)
          clear hl a; intro a hl
          refine wl (w_call hl hh rfl trivial rfl cal36 rfl (store_y kc s.1.f 2 _ _ rfl (by omega)) (by repeat (first | exact keeps_nil | apply keeps_cons (by repeat (first | exact find_head | apply find_tail)) (by first  | rfl) | exact keeps_self | exact keeps_left | exact keeps_right | exact keeps_swap | apply keeps_mv)) trivial ?_)
          clear hl hh a w; intro vc Fc a w hR hl hh
          obtain ⟨rfl, rfl⟩ := hR
          try simp only [List.cons_append, List.nil_append] at hh
          refine w_nil ?_
          have hl2 := hl.add (t := 3) (hl.add (t := 5) (hl.add (t := 9) (hl.nil) rfl) rfl) rfl; clear hl; have hl := hl2; clear hl2
          refine then_normal ?_
          refine c_seq ?_
          refine c_region ?_
          refine wl (wl_val hl rfl trivial (r_move hl rfl) ?_)
          clear hl a; intro a hl
          refine wl (w_call hl hh rfl trivial rfl cal37 rfl (alloc_y kc _ 1 _ rfl (hIw.good (by omega))) (by repeat (first | exact keeps_nil | apply keeps_cons (by repeat (first | exact find_head | apply find_tail)) (by first  | rfl) | exact keeps_self | exact keeps_left | exact keeps_right | exact keeps_swap | apply keeps_mv)) trivial ?_)
          clear hl hh a w; intro vc Fc a w hR hl hh
          obtain ⟨rfl, rfl⟩ := hR
          try simp only [List.cons_append, List.nil_append] at hh
          refine w_nil ?_
          have hl2 := hl.add (t := 3) (hl.add (t := 5) (hl.add (t := 9) (hl.nil) rfl) rfl) rfl; clear hl; have hl := hl2; clear hl2
          refine then_normal ?_
          refine c_seq ?_
          refine c_draw [(gb, C [.pointer (some ⟨b, 0, none⟩), s.1.rv] 41), (hb, C [.pointer (some ⟨b2, 0, none⟩), s.2.1] 41)] [15, 16, 17, 18] mixed hh ?_
          clear hh w; intro w hh
          have hM : Mem [(gb, C [.pointer (some ⟨b, 0, none⟩), s.1.rv] 41), (hb, C [.pointer (some ⟨b2, 0, none⟩), s.2.1] 41)] w := (by repeat (first | exact Mem.nil | refine Mem.cons hh.mem (by repeat (first | exact find_head | apply find_tail)) ?_ | refine Mem.consR hh (by assumption) (by simp) ?_))
          refine d_take (i := 0) hl rfl (by kernel_rfl) (by kernel_rfl) (by kernel_rfl) (by kernel_rfl) (by kernel_rfl) rfl trivial (fun _ _ _ h => h) hM (fun w hC => r_move hl rfl) rfl ?_
          clear hl a; intro a hl
          refine d_take (i := 1) hl rfl (by kernel_rfl) (by kernel_rfl) (by kernel_rfl) (by kernel_rfl) (by kernel_rfl) rfl trivial (fun _ _ _ h => h) hM (fun w hC => r_nilCheck hl rfl) rfl ?_
          clear hl a; intro a hl
          refine d_take (i := 2) hl rfl (by kernel_rfl) (by kernel_rfl) (by kernel_rfl) (by kernel_rfl) (by kernel_rfl) rfl trivial (fun _ _ _ h => h) hM (fun w hC => r_field hl rfl fld41_0) rfl ?_
          clear hl a; intro a hl
          refine d_take (i := 3) hl rfl (by kernel_rfl) (by kernel_rfl) (by kernel_rfl) (by kernel_rfl) (by kernel_rfl) rfl trivial (fun _ _ _ h => h) hM (fun w hC => r_loadC hl rfl one38 hC (by repeat (first | exact find_head | apply find_tail)) (by first | rfl)) rfl ?_
          clear hl a; intro a hl
          refine d_take (i := 4) hl rfl (by kernel_rfl) (by kernel_rfl) (by kernel_rfl) (by kernel_rfl) (by kernel_rfl) rfl trivial (fun _ _ _ h => h) hM (fun w hC => r_move hl rfl) rfl ?_
          clear hl a; intro a hl
          refine d_take (i := 5) hl rfl (by kernel_rfl) (by kernel_rfl) (by kernel_rfl) (by kernel_rfl) (by kernel_rfl) rfl trivial (fun _ _ _ h => h) hM (fun w hC => r_nilCheck hl rfl) rfl ?_
          clear hl a; intro a hl
          refine d_take (i := 6) hl rfl (by kernel_rfl) (by kernel_rfl) (by kernel_rfl) (by kernel_rfl) (by kernel_rfl) rfl trivial (fun _ _ _ h => h) hM (fun w hC => r_field hl rfl fld41_0) rfl ?_
          clear hl a; intro a hl
          refine d_take (i := 7) hl rfl (by kernel_rfl) (by kernel_rfl) (by kernel_rfl) (by kernel_rfl) (by kernel_rfl) rfl trivial (fun _ _ _ h => h) hM (fun w hC => r_loadC hl rfl one38 hC (by repeat (first | exact find_head | apply find_tail)) (by first | rfl)) rfl ?_
          clear hl a; intro a hl
          refine d_one (i := 8) (by kernel_rfl) rfl ?_
          try clear hM
          refine id (w_call hl hh rfl trivial rfl cal26 rfl (equal_spec b b2 s.1.f s.1.f (hI.inv.wf (by omega)) (hI.inv.wf (by omega))) (by repeat (first | exact keeps_nil | apply keeps_cons (by repeat (first | exact find_head | apply find_tail)) (by first  | rfl) | exact keeps_self | exact keeps_left | exact keeps_right | exact keeps_swap | apply keeps_mv)) trivial ?_)
          clear hl hh a w; intro vc Fc a w hR hl hh
          obtain ⟨rfl, rfl⟩ := hR
          try simp only [List.cons_append, List.nil_append] at hh
          rw [same_self] at hl
          have hM : Mem [(gb, C [.pointer (some ⟨b, 0, none⟩), s.1.rv] 41), (hb, C [.pointer (some ⟨b2, 0, none⟩), s.2.1] 41)] w := (by repeat (first | exact Mem.nil | refine Mem.cons hh.mem (by repeat (first | exact find_head | apply find_tail)) ?_ | refine Mem.consR hh (by assumption) (by simp) ?_))
          refine d_step (fun _ => hM) ?_
          refine d_take (i := 9) hl rfl (by kernel_rfl) (by kernel_rfl) (by kernel_rfl) (by kernel_rfl) (by kernel_rfl) rfl trivial (fun _ _ _ h => h) hM (fun w hC => r_move hl rfl) rfl ?_
          clear hl a; intro a hl
          refine sl_split (t := 97) hl rfl ?_ ?_
          · intro hg2; clear hl; intro hl
            try simp only [decide_eq_true_eq, decide_eq_false_iff_not, Bool.not_eq_true', Bool.not_eq_false', Bool.not_eq_true, Bool.not_eq_false, Bool.and_eq_true, Bool.or_eq_true, Bool.and_eq_false_iff, Bool.or_eq_false_iff, Bool.not_not, ne_eq, Int.not_lt, Int.not_le, Decidable.not_not, beq_iff_eq, bne_iff_ne] at hg2
            refine d_take (i := 10) hl rfl (by kernel_rfl) (by kernel_rfl) (by kernel_rfl) (by kernel_rfl) (by kernel_rfl) rfl ⟨_, _, rfl, rfl, rfl⟩ (fun _ _ _ h => h) hM (fun w hC => r_move hl rfl) rfl ?_
            clear hl a; intro a hl
            refine d_take (i := 11) hl rfl (by kernel_rfl) (by kernel_rfl) (by kernel_rfl) (by kernel_rfl) (by kernel_rfl) rfl ⟨_, _, rfl, rfl, rfl⟩ (fun _ _ _ h => h) hM (fun w hC => r_move hl rfl) rfl ?_
            clear hl a; intro a hl
            refine d_take (i := 12) hl rfl (by kernel_rfl) (by kernel_rfl) (by kernel_rfl) (by kernel_rfl) (by kernel_rfl) rfl ⟨_, _, rfl, rfl, rfl⟩ (fun _ _ _ h => h) hM (fun w hC => r_nilCheck hl rfl) rfl ?_
            clear hl a; intro a hl
            refine d_take (i := 13) hl rfl (by kernel_rfl) (by kernel_rfl) (by kernel_rfl) (by kernel_rfl) (by kernel_rfl) rfl ⟨_, _, rfl, rfl, rfl⟩ (fun _ _ _ h => h) hM (fun w hC => r_field hl rfl fld41_0) rfl ?_
            clear hl a; intro a hl
            refine d_take (i := 14) hl rfl (by kernel_rfl) (by kernel_rfl) (by kernel_rfl) (by kernel_rfl) (by kernel_rfl) rfl ⟨_, _, rfl, rfl, rfl⟩ (fun _ _ _ h => h) hM (fun w hC => r_loadC hl rfl one38 hC (by repeat (first | exact find_head | apply find_tail)) (by first | rfl)) rfl ?_
            clear hl a; intro a hl
            refine d_one (i := 15) (by kernel_rfl) rfl ?_
            try clear hM
            refine id (w_call hl hh rfl ⟨_, _, rfl, rfl, rfl⟩ rfl cal26 rfl (equal_spec kc b _ s.1.f (hI3.wf (by omega)) (hI.inv.wf (by omega))) (by repeat (first | exact keeps_nil | apply keeps_cons (by repeat (first | exact find_head | apply find_tail)) (by first  | rfl) | exact keeps_self | exact keeps_left | exact keeps_right | exact keeps_swap | apply keeps_mv)) trivial ?_)
            clear hl hh a w; intro vc Fc a w hR hl hh
            obtain ⟨rfl, rfl⟩ := hR
            try simp only [List.cons_append, List.nil_append] at hh
            rw [hap] at hl
            refine d_step (fun h => absurd h (by decide)) ?_
            refine d_takeL (i := 16) hl rfl (by kernel_rfl) (by kernel_rfl) (by kernel_rfl) (by kernel_rfl) (by kernel_rfl) rfl ⟨_, _, rfl, rfl, rfl⟩ (fun _ _ _ h => h) (fun w => r_not hl rfl) rfl ?_
            clear hl a; intro a hl
            refine d_takeL (i := 17) hl rfl (by kernel_rfl) (by kernel_rfl) (by kernel_rfl) (by kernel_rfl) (by kernel_rfl) rfl trivial (fun _ _ _ h => h) (fun w => r_pickT hl rfl rfl) rfl ?_
            clear hl a; intro a hl
            refine d_takeL (i := 18) hl rfl (by kernel_rfl) (by kernel_rfl) (by kernel_rfl) (by kernel_rfl) (by kernel_rfl) rfl trivial (fun _ _ _ h => h) (fun w => r_assign hl rfl) rfl ?_
            clear hl a; intro a hl
            refine d_done (by kernel_rfl) ?_
            try clear hM
            have hl2 := hl.add (t := 2) (hl.nil) rfl; clear hl; have hl := hl2; clear hl2
            refine then_normal ?_
            refine wp_ret ?_
            refine f_ret1 (F' := []) hl hh rfl rfl (by repeat (first | exact keeps_nil | apply keeps_cons (by repeat (first | exact find_head | apply find_tail)) (by first  | rfl) | exact keeps_self | exact keeps_left | exact keeps_right | exact keeps_swap | apply keeps_mv)) ?_
            exact ⟨rfl, rfl⟩
          · intro hg2; clear hl; intro hl
            try simp only [decide_eq_true_eq, decide_eq_false_iff_not, Bool.not_eq_true', Bool.not_eq_false', Bool.not_eq_true, Bool.not_eq_false, Bool.and_eq_true, Bool.or_eq_true, Bool.and_eq_false_iff, Bool.or_eq_false_iff, Bool.not_not, ne_eq, Int.not_lt, Int.not_le, Decidable.not_not, beq_iff_eq, bne_iff_ne] at hg2
            exfalso; first | omega | (simp at *; done) | (simp at *; omega)
end Go.Proofs.Qxb6500913a

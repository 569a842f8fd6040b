import Derived.Test.Qxb6500914aGreatM1
namespace Go.Proofs.Qxb6500914aGreat
open Go.Eng
set_option linter.unusedVariables false
set_option linter.unusedSimpArgs false
theorem fld69_0 : fieldOk Tryz.prog 69 0 0 = true := by kernel_rfl
theorem one66 : oneOk Tryz.prog 66 = true := by kernel_rfl
theorem cal56 : callable Tryz.prog 56 = true := by kernel_rfl
theorem zero69 : zeroOk Tryz.prog 69 (.agg #[(.int .u64 0), (.int .u64 0), (.int .u64 0), (.int .u64 0), (.int .u64 0), (.int .u64 0), (.int .u64 0), (.int .u64 0), (.int .i64 0)]) := by unfold zeroOk; kernel_rfl
theorem bld69 : buildOk Tryz.prog 69 [(0, 1), (1, 7), (8, 1)] = true := by kernel_rfl
theorem agg69 : aggOk Tryz.prog 69 9 = true := by kernel_rfl
theorem cal52 : callable Tryz.prog 52 = true := by kernel_rfl
theorem cal53 : callable Tryz.prog 53 = true := by kernel_rfl
theorem fld69_1 : fieldOk Tryz.prog 69 1 1 = true := by kernel_rfl
theorem arr67 : arrOk Tryz.prog 67 7 1 = true := by kernel_rfl
theorem cal55 : callable Tryz.prog 55 = true := by kernel_rfl
theorem cal57 : callable Tryz.prog 57 = true := by kernel_rfl
theorem cal58 : callable Tryz.prog 58 = true := by kernel_rfl
attribute [local irreducible] encM

def hd (k : Bool) : Nat := if k then 80 else 2
def nd (k : Bool) (i : Nat) : Nat := if k then 88 + 18 * i else 10 + 10 * i
def wd (k : Bool) : Nat := if k then 2 else 1
def en (k : Bool) : Nat := if k then 214 else 80
theorem hd_le (k : Bool) : 2 ≤ hd k ∧ hd k ≤ 80 := by cases k <;> decide
theorem wd_le (k : Bool) : 1 ≤ wd k ∧ wd k ≤ 2 := by cases k <;> decide
theorem nd_le (k : Bool) (i : Nat) (h : i ≤ 7) : hd k + 8 ≤ nd k i ∧ nd k i ≤ 214 ∧ nd k i % 2 = 0 := by cases k <;> simp only [hd, nd, if_true, Bool.false_eq_true, if_false] <;> omega
theorem nd_succ (k : Bool) (i : Nat) : nd k (i + 1) = nd k i + ((1 + 8 * wd k) + (1 + 8 * wd k) % 2) := by cases k <;> simp only [wd, nd, if_true, Bool.false_eq_true, if_false] <;> omega
theorem nd_zero (k : Bool) : nd k 0 = hd k + (7 + 7 % 2) ∧ hd k % 2 = 0 := by cases k <;> decide
theorem nd_seven (k : Bool) : nd k 7 = en k := by cases k <;> decide
theorem ref_mod (x : Nat) (h : x < 65536) : (65536 + x) % 65536 = x := by omega
def boxL (k : Bool) : List Value := [.int .u64 ((65536 + hd k : Nat) : Int), .int .u64 ((65536 + nd k 0 : Nat) : Int), .int .u64 ((65536 + nd k 1 : Nat) : Int), .int .u64 ((65536 + nd k 2 : Nat) : Int), .int .u64 ((65536 + nd k 3 : Nat) : Int), .int .u64 ((65536 + nd k 4 : Nat) : Int), .int .u64 ((65536 + nd k 5 : Nat) : Int), .int .u64 ((65536 + nd k 6 : Nat) : Int), .int .i64 (wd k : Int)]
/-- every cell of the memory is in its kind's range -/
structure MW (m : MS) : Prop where
  word : ∀ c, Fits .u64 (m.word c)
  gen : ∀ c, Fits .u64 (m.gen c)
  size : ∀ c, Fits .i64 (m.size c)
  cnt : Fits .i64 m.cnt
  lk : Fits .u8 m.lk
  la : Fits .u32 m.la
  ls : Fits .u8 m.ls
  lb : Fits .u64 m.lb
  lf : Fits .u64 m.lf
theorem fits_updF {k : IntKind} {f : Nat → Int} {i : Nat} {x : Int} (h : ∀ c, Fits k (f c)) (hx : Fits k x) (c : Nat) : Fits k (updF f i x c) := by
  unfold updF; split
  · exact hx
  · exact h c
theorem MW.begin {m : MS} (h : MW m) (k : Int) (ad : Nat) (hk : Fits .u8 k) (ha : Fits .u32 ad) : MW (beginF m k ad) :=
  ⟨h.word, h.gen, h.size, fits_wrap _ _, hk, ha, by show Fits .u8 0; simp only [Fits]; omega, h.word ad, h.word ad⟩
theorem MW.put {m : MS} (h : MW m) (x : Int) (ad : Nat) (hx : Fits .u64 x) : MW (putF m x ad) :=
  ⟨fits_updF h.word hx, h.gen, h.size, h.cnt, h.lk, h.la, h.ls, h.lb, hx⟩
theorem MW.store {m : MS} (h : MW m) (x : Int) (ad : Nat) (hx : Fits .u64 x) (ha : ad < 4096) : MW (putF (beginF m 2 ad) x ad) :=
  (h.begin 2 ad (by simp only [Fits]; omega) (by simp only [Fits]; omega)).put x ad hx
theorem MW.alloc {m : MS} (h : MW m) (L s : Nat) (hL : L < 4096) (hs : s < 4096) : MW (allocF m L s) := by
  refine ⟨h.word, fun c => ?_, fun c => ?_, fits_wrap _ _, by show Fits .u8 4; simp only [Fits]; omega, by show Fits .u32 (L : Int); simp only [Fits]; omega, by show Fits .u8 0; simp only [Fits]; omega, by show Fits .u64 0; simp only [Fits]; omega, by show Fits .u64 0; simp only [Fits]; omega⟩
  · show Fits .u64 (if L ≤ c ∧ c < L + s then IntKind.u64.wrap (m.gen c + 1) else m.gen c)
    split
    · exact fits_wrap _ _
    · exact h.gen c
  · exact fits_updF h.size (by simp only [Fits]; omega) c
/-- the sizes of the nodes of the two boxes, at their first cells -/
def SZ (c : Nat) : Nat := if c = 2 ∨ c = 80 then 8 else if 10 ≤ c ∧ c < 80 ∧ c % 10 = 0 then 10 else if 88 ≤ c ∧ c < 214 ∧ (c - 88) % 18 = 0 then 18 else 0
theorem SZ_hd (k : Bool) : SZ (hd k) = 8 ∧ ∀ c, hd k < c → c < hd k + 8 → SZ c = 0 := by
  cases k
  · exact ⟨rfl, fun c h1 h2 => by have h1' : 2 < c := h1; have h2' : c < 10 := h2; unfold SZ; rw [if_neg (by omega), if_neg (by omega), if_neg (by omega)]⟩
  · exact ⟨rfl, fun c h1 h2 => by have h1' : 80 < c := h1; have h2' : c < 88 := h2; unfold SZ; rw [if_neg (by omega), if_neg (by omega), if_neg (by omega)]⟩
theorem SZ_nd (k : Bool) (i : Nat) (h : i < 7) : SZ (nd k i) = (1 + 8 * wd k) + (1 + 8 * wd k) % 2 ∧ ∀ c, nd k i < c → c < nd k i + ((1 + 8 * wd k) + (1 + 8 * wd k) % 2) → SZ c = 0 := by
  cases k
  · have e : nd false i = 10 + 10 * i := rfl
    have e2 : (1 + 8 * wd false) + (1 + 8 * wd false) % 2 = 10 := rfl
    rw [e, e2]
    exact ⟨by unfold SZ; rw [if_neg (by omega), if_pos (by omega)], fun c h1 h2 => by unfold SZ; rw [if_neg (by omega), if_neg (by omega), if_neg (by omega)]⟩
  · have e : nd true i = 88 + 18 * i := rfl
    have e2 : (1 + 8 * wd true) + (1 + 8 * wd true) % 2 = 18 := rfl
    rw [e, e2]
    exact ⟨by unfold SZ; rw [if_neg (by omega), if_neg (by omega), if_pos (by omega)], fun c h1 h2 => by unfold SZ; rw [if_neg (by omega), if_neg (by omega), if_neg (by omega)]⟩
structure PreL (m : MS) (L : Nat) : Prop where
  mw : MW m
  live : ∀ c, c < 4096 → m.live c = decide (2 ≤ c ∧ c < L)
  gen : ∀ c, L ≤ c → c < 4096 → m.gen c = 0
  gen1 : ∀ c, 2 ≤ c → c < L → m.gen c = 1
  size : ∀ c, m.size c = if c < L then (SZ c : Int) else 0
theorem PreL.alloc {m : MS} {L s : Nat} (h : PreL m L) (h2 : 2 ≤ L) (hL : L < 4096) (hs : s < 4096) (hLs : L + s ≤ 4096) (hz : SZ L = s ∧ ∀ c, L < c → c < L + s → SZ c = 0) (h0 : 0 < s) : PreL (allocF m L s) (L + s) ∧ (allocF m L s).word = m.word := by
  refine ⟨⟨h.mw.alloc L s hL hs, fun c hc => ?_, fun c h1 hc => ?_, fun c h1 hc => ?_, fun c => ?_⟩, rfl⟩
  · show (if L ≤ c ∧ c < L + s then true else m.live c) = _
    by_cases e : L ≤ c ∧ c < L + s
    · rw [if_pos e, decide_eq_true (by omega)]
    · rw [if_neg e, h.live c hc]
      exact decide_eq_decide.2 (by omega)
  · show (if L ≤ c ∧ c < L + s then IntKind.u64.wrap (m.gen c + 1) else m.gen c) = 0
    rw [if_neg (by omega)]
    exact h.gen c (by omega) hc
  · show (if L ≤ c ∧ c < L + s then IntKind.u64.wrap (m.gen c + 1) else m.gen c) = 1
    by_cases e : L ≤ c ∧ c < L + s
    · rw [if_pos e, h.gen c e.1 (by omega)]; rfl
    · rw [if_neg e]; exact h.gen1 c h1 (by omega)
  · show updF m.size L (s : Int) c = _
    unfold updF
    by_cases e : c = L
    · subst e; rw [if_pos rfl, if_pos (by omega), hz.1]
    · rw [if_neg e, h.size c]
      by_cases e1 : c < L
      · rw [if_pos e1, if_pos (by omega)]
      · rw [if_neg e1]
        by_cases e2 : c < L + s
        · rw [if_pos e2, hz.2 c (by omega) e2]; rfl
        · rw [if_neg e2]
theorem PreL.word {m m' : MS} {L : Nat} (h : PreL m L) (h1 : m'.live = m.live) (h2 : m'.gen = m.gen) (h3 : m'.size = m.size) (hw : MW m') : PreL m' L := ⟨hw, by rw [h1]; exact h.live, by rw [h2]; exact h.gen, by rw [h2]; exact h.gen1, by rw [h3]; exact h.size⟩
/-- the box as it is filled -/
def bxV (k : Bool) (i : Nat) (j : Nat) : Value := if j = 0 then .int .u64 ((65536 + hd k : Nat) : Int) else if j < 8 then (if j ≤ i then .int .u64 ((65536 + nd k (j - 1) : Nat) : Int) else .int .u64 0) else .int .i64 (wd k : Int)
theorem bxV_succ (k : Bool) (i : Nat) (h : i < 7) : setL (arrL 9 (bxV k i)) (0 + 1 + i * 1) [.int .u64 ((65536 + nd k i : Nat) : Int)] = arrL 9 (bxV k (i + 1)) := by
  rw [show 0 + 1 + i * 1 = 1 + i by omega, arrL_set (by omega)]
  refine arrL_congr fun j hj => ?_
  unfold updV bxV
  by_cases e : j = 1 + i
  · subst e
    rw [if_pos rfl, if_neg (by omega), if_pos (by omega), if_pos (by omega), show 1 + i - 1 = i by omega]
  · rw [if_neg e]
    by_cases c0 : j = 0
    · rw [if_pos c0, if_pos c0]
    rw [if_neg c0, if_neg c0]
    by_cases c1 : j < 8
    · rw [if_pos c1, if_pos c1]
      by_cases c2 : j ≤ i
      · rw [if_pos c2, if_pos (by omega)]
      · rw [if_neg c2, if_neg (by omega)]
    · rw [if_neg c1, if_neg c1]
theorem bxV_all (k : Bool) : arrL 9 (bxV k 7) = boxL k := by unfold arrL; rfl
theorem bxV_start (k : Bool) : C [.int .u64 ((65536 + hd k : Nat) : Int), .int .u64 0, .int .u64 0, .int .u64 0, .int .u64 0, .int .u64 0, .int .u64 0, .int .u64 0, .int .i64 (wd k : Int)] 69 = C (arrL 9 (bxV k 0)) 69 := by unfold arrL; rfl

set_option maxHeartbeats 1000000 in
theorem rootCell_spec (k : Bool) : Sp Tryz.prog 57 #[.agg ⟨[.int .u64 ((65536 + hd k : Nat) : Int), .int .u64 ((65536 + nd k 0 : Nat) : Int), .int .u64 ((65536 + nd k 1 : Nat) : Int), .int .u64 ((65536 + nd k 2 : Nat) : Int), .int .u64 ((65536 + nd k 3 : Nat) : Int), .int .u64 ((65536 + nd k 4 : Nat) : Int), .int .u64 ((65536 + nd k 5 : Nat) : Int), .int .u64 ((65536 + nd k 6 : Nat) : Int), .int .i64 (wd k : Int)]⟩] [] (fun v F' => v = .int .u32 (hd k : Int) ∧ F' = []) := by
  refine f_enter (args := [.agg ⟨[.int .u64 ((65536 + hd k : Nat) : Int), .int .u64 ((65536 + nd k 0 : Nat) : Int), .int .u64 ((65536 + nd k 1 : Nat) : Int), .int .u64 ((65536 + nd k 2 : Nat) : Int), .int .u64 ((65536 + nd k 3 : Nat) : Int), .int .u64 ((65536 + nd k 4 : Nat) : Int), .int .u64 ((65536 + nd k 5 : Nat) : Int), .int .u64 ((65536 + nd k 6 : Nat) : Int), .int .i64 (wd k : Int)]⟩]) Tryz.func57 rfl Tryz.ntmps57 rfl ?_
  intro w0 w a hpre hl hh
  have hle := hd_le k
  simp only [slotsFrom, Nat.reduceAdd] at hl
  refine c_seq ?_
  refine c_region ?_
  refine wl (w_box hl hh rfl trivial rfl rfl ?_)
  clear hl hh a w; intro k1 a w hl hh
  refine wl (wl_val hl rfl trivial (r_assign hl rfl) ?_)
  clear hl a; intro a hl
  refine w_nil ?_
  have hl2 := hl.add (t := 1) (hl.nil) rfl; clear hl; have hl := hl2; clear hl2
  refine then_normal ?_
  refine c_seq ?_
  refine c_region ?_
  refine wl (wl_val hl rfl trivial (r_field hl rfl fld69_0) ?_)
  clear hl a; intro a hl
  refine wl (w_load hl hh rfl trivial one66 rfl (by repeat (first | exact find_head | apply find_tail)) (by first | rfl) ?_)
  clear hl a; intro a hl
  refine wl (w_call hl hh rfl trivial rfl cal56 rfl (refAddr_spec _) (by repeat (first | exact keeps_nil | apply keeps_cons (by repeat (first | exact find_head | apply find_tail)) (by first  | rfl) | exact keeps_self | apply keeps_mv)) trivial ?_)
  clear hl hh a w; intro vc Fc a w hR hl hh
  obtain ⟨rfl, rfl⟩ := hR
  try simp only [List.cons_append, List.nil_append] at hh
  rw [ref_mod _ (by omega)] at hl
  first | refine wl (wl_val hl rfl trivial (r_add hl rfl rfl (by simp only [Fits]; omega)) ?_) | refine wl (wl_val hl rfl trivial (r_addW hl rfl rfl) ?_)
  clear hl a; intro a hl
  refine wl (wl_val hl rfl trivial (r_assign hl rfl) ?_)
  clear hl a; intro a hl
  refine w_nil ?_
  have hl2 := hl.add (t := 2) (hl.nil) rfl; clear hl; have hl := hl2; clear hl2
  refine then_normal ?_
  refine wp_ret ?_
  refine f_ret1 (F' := []) hl hh rfl rfl (by repeat (first | exact keeps_nil | apply keeps_cons (by repeat (first | exact find_head | apply find_tail)) (by first  | rfl) | exact keeps_self | apply keeps_mv)) ?_
  exact ⟨congrArg (Value.int .u32) (by omega), rfl⟩

set_option maxHeartbeats 1000000 in
theorem spareCell_spec (k : Bool) (t : Nat) (ht : t < 6) : Sp Tryz.prog 58 #[.agg ⟨[.int .u64 ((65536 + hd k : Nat) : Int), .int .u64 ((65536 + nd k 0 : Nat) : Int), .int .u64 ((65536 + nd k 1 : Nat) : Int), .int .u64 ((65536 + nd k 2 : Nat) : Int), .int .u64 ((65536 + nd k 3 : Nat) : Int), .int .u64 ((65536 + nd k 4 : Nat) : Int), .int .u64 ((65536 + nd k 5 : Nat) : Int), .int .u64 ((65536 + nd k 6 : Nat) : Int), .int .i64 (wd k : Int)]⟩, .int .i64 t] [] (fun v F' => v = .int .u32 ((hd k + 1 + t : Nat) : Int) ∧ F' = []) := by
  refine f_enter (args := [.agg ⟨[.int .u64 ((65536 + hd k : Nat) : Int), .int .u64 ((65536 + nd k 0 : Nat) : Int), .int .u64 ((65536 + nd k 1 : Nat) : Int), .int .u64 ((65536 + nd k 2 : Nat) : Int), .int .u64 ((65536 + nd k 3 : Nat) : Int), .int .u64 ((65536 + nd k 4 : Nat) : Int), .int .u64 ((65536 + nd k 5 : Nat) : Int), .int .u64 ((65536 + nd k 6 : Nat) : Int), .int .i64 (wd k : Int)]⟩, .int .i64 t]) Tryz.func58 rfl Tryz.ntmps58 rfl ?_
  intro w0 w a hpre hl hh
  have hle := hd_le k
  simp only [slotsFrom, Nat.reduceAdd] at hl
  refine c_seq ?_
  refine c_region ?_
  refine wl (w_box hl hh rfl trivial rfl rfl ?_)
  clear hl hh a w; intro k2 a w hl hh
  refine wl (wl_val hl rfl trivial (r_assign hl rfl) ?_)
  clear hl a; intro a hl
  refine w_nil ?_
  have hl2 := hl.add (t := 1) (hl.add (t := 2) (hl.nil) rfl) rfl; clear hl; have hl := hl2; clear hl2
  refine then_normal ?_
  refine c_seq ?_
  refine c_region ?_
  refine wl (wl_val hl rfl trivial (r_field hl rfl fld69_0) ?_)
  clear hl a; intro a hl
  refine wl (w_load hl hh rfl trivial one66 rfl (by repeat (first | exact find_head | apply find_tail)) (by first | rfl) ?_)
  clear hl a; intro a hl
  refine wl (w_call hl hh rfl trivial rfl cal56 rfl (refAddr_spec _) (by repeat (first | exact keeps_nil | apply keeps_cons (by repeat (first | exact find_head | apply find_tail)) (by first  | rfl) | exact keeps_self | apply keeps_mv)) trivial ?_)
  clear hl hh a w; intro vc Fc a w hR hl hh
  obtain ⟨rfl, rfl⟩ := hR
  try simp only [List.cons_append, List.nil_append] at hh
  rw [ref_mod _ (by omega)] at hl
  first | refine wl (wl_val hl rfl trivial (r_add hl rfl rfl (by simp only [Fits]; omega)) ?_) | refine wl (wl_val hl rfl trivial (r_addW hl rfl rfl) ?_)
  clear hl a; intro a hl
  refine wl (wl_val hl rfl trivial (r_move hl rfl) ?_)
  clear hl a; intro a hl
  first | refine wl (wl_val hl rfl trivial (r_conv hl rfl Tryz.underlying3 Tryz.underlying111 (by simp only [Fits]; omega)) ?_) | refine wl (wl_val hl rfl trivial (r_convW hl rfl Tryz.underlying3 Tryz.underlying111) ?_)
  clear hl a; intro a hl
  first | refine wl (wl_val hl rfl trivial (r_add hl rfl rfl (by simp only [Fits]; omega)) ?_) | refine wl (wl_val hl rfl trivial (r_addW hl rfl rfl) ?_)
  clear hl a; intro a hl
  refine wl (wl_val hl rfl trivial (r_assign hl rfl) ?_)
  clear hl a; intro a hl
  refine w_nil ?_
  have hl2 := hl.add (t := 4) (hl.nil) rfl; clear hl; have hl := hl2; clear hl2
  refine then_normal ?_
  refine wp_ret ?_
  refine f_ret1 (F' := []) hl hh rfl rfl (by repeat (first | exact keeps_nil | apply keeps_cons (by repeat (first | exact find_head | apply find_tail)) (by first  | rfl) | exact keeps_self | apply keeps_mv)) ?_
  exact ⟨congrArg (Value.int .u32) (by omega), rfl⟩

set_option maxHeartbeats 1000000 in
theorem indexOf_spec (r : Nat) (hr : r < 18446744073709551616) : Sp Tryz.prog 125 #[.int .u64 r] [] (fun v F' => v = .int .i64 ((r % 256 : Nat) : Int) ∧ F' = []) := by
  refine f_enter (args := [.int .u64 r]) Tryz.func125 rfl Tryz.ntmps125 rfl ?_
  intro w0 w a hpre hl hh
  simp only [slotsFrom, Nat.reduceAdd] at hl
  refine c_seq ?_
  refine c_region ?_
  refine wl (wl_val hl rfl trivial (r_assign hl rfl) ?_)
  clear hl a; intro a hl
  refine w_nil ?_
  have hl2 := hl.add (t := 0) (hl.nil) rfl; clear hl; have hl := hl2; clear hl2
  refine then_normal ?_
  refine c_seq ?_
  refine c_region ?_
  refine wl (wl_val hl rfl trivial (r_move hl rfl) ?_)
  clear hl a; intro a hl
  refine wl (wl_val hl rfl trivial (r_and hl rfl rfl) ?_)
  clear hl a; intro a hl
  refine wl (wl_val hl rfl trivial (r_convW hl rfl Tryz.underlying37 Tryz.underlying3) ?_)
  clear hl a; intro a hl
  refine wl (wl_val hl rfl trivial (r_assign hl rfl) ?_)
  clear hl a; intro a hl
  refine w_nil ?_
  have hl2 := hl.add (t := 2) (hl.nil) rfl; clear hl; have hl := hl2; clear hl2
  refine then_normal ?_
  refine wp_ret ?_
  refine f_ret1 (F' := []) hl hh rfl rfl (by repeat (first | exact keeps_nil | apply keeps_cons (by repeat (first | exact find_head | apply find_tail)) (by first  | rfl) | exact keeps_self | apply keeps_mv)) ?_
  exact ⟨by rw [and_255, wrap_fits (by simp only [Fits]; omega)], rfl⟩

/-- the root word that follows -/
def succF (r i : Nat) : Nat := (r / 256 + 1) * 256 % 18446744073709551616 + i

theorem succ_bits (r i : Nat) (hr : r < 18446744073709551616) (hi : i < 256) : bitsOf .or .u64 (IntKind.u64.wrap (IntKind.u64.wrap (Int.fdiv (r : Int) (2 ^ (min (Int.toNat 8) IntKind.u64.bits)) + 1) * 2 ^ (min (Int.toNat 8) IntKind.u64.bits))) (i : Int) = ((succF r i : Nat) : Int) := by
  have e1 : Int.fdiv (r : Int) (2 ^ (min (Int.toNat 8) IntKind.u64.bits)) = ((r / 256 : Nat) : Int) := by
    show Int.fdiv (r : Int) 256 = _
    rw [Int.fdiv_eq_ediv_of_nonneg _ (by decide)]
    omega
  rw [e1, wrap_fits (k := .u64) (r := ((r / 256 : Nat) : Int) + 1) (by simp only [Fits]; omega)]
  have e2 : IntKind.u64.wrap ((((r / 256 : Nat) : Int) + 1) * 2 ^ (min (Int.toNat 8) IntKind.u64.bits)) = (((r / 256 + 1) % 72057594037927936 * 2 ^ 8 : Nat) : Int) := by
    show IntKind.u64.wrap ((((r / 256 : Nat) : Int) + 1) * 256) = _
    by_cases c : r / 256 + 1 = 72057594037927936
    · rw [c, show (((r / 256 : Nat) : Int) + 1) * 256 = 18446744073709551616 by omega]; decide
    · rw [wrap_fits (by simp only [Fits]; omega)]; omega
  rw [e2, or_parts 8 i _ (by omega) hi (by omega)]
  unfold succF
  congr 1
  omega

set_option maxHeartbeats 1000000 in
theorem successor_spec (r i : Nat) (hr : r < 18446744073709551616) (hi : i < 256) : Sp Tryz.prog 132 #[.int .u64 r, .int .i64 i] [] (fun v F' => v = .int .u64 ((succF r i : Nat) : Int) ∧ F' = []) := by
  refine f_enter (args := [.int .u64 r, .int .i64 i]) Tryz.func132 rfl Tryz.ntmps132 rfl ?_
  intro w0 w a hpre hl hh
  simp only [slotsFrom, Nat.reduceAdd] at hl
  refine c_seq ?_
  refine c_region ?_
  refine wl (wl_val hl rfl trivial (r_assign hl rfl) ?_)
  clear hl a; intro a hl
  refine w_nil ?_
  have hl2 := hl.add (t := 0) (hl.add (t := 1) (hl.nil) rfl) rfl; clear hl; have hl := hl2; clear hl2
  refine then_normal ?_
  refine c_seq ?_
  refine c_region ?_
  refine wl (wl_val hl rfl trivial (r_move hl rfl) ?_)
  clear hl a; intro a hl
  refine wl (wl_val hl rfl trivial (r_shr hl rfl rfl (by omega)) ?_)
  clear hl a; intro a hl
  refine wl (wl_val hl rfl trivial (r_addW hl rfl rfl) ?_)
  clear hl a; intro a hl
  refine wl (wl_val hl rfl trivial (r_shl hl rfl rfl (by omega)) ?_)
  clear hl a; intro a hl
  refine wl (wl_val hl rfl trivial (r_move hl rfl) ?_)
  clear hl a; intro a hl
  first | refine wl (wl_val hl rfl trivial (r_conv hl rfl Tryz.underlying3 Tryz.underlying37 (by simp only [Fits]; omega)) ?_) | refine wl (wl_val hl rfl trivial (r_convW hl rfl Tryz.underlying3 Tryz.underlying37) ?_)
  clear hl a; intro a hl
  refine wl (wl_val hl rfl trivial (r_or hl rfl rfl) ?_)
  clear hl a; intro a hl
  refine wl (wl_val hl rfl trivial (r_assign hl rfl) ?_)
  clear hl a; intro a hl
  refine w_nil ?_
  have hl2 := hl.add (t := 4) (hl.nil) rfl; clear hl; have hl := hl2; clear hl2
  refine then_normal ?_
  refine wp_ret ?_
  refine f_ret1 (F' := []) hl hh rfl rfl (by repeat (first | exact keeps_nil | apply keeps_cons (by repeat (first | exact find_head | apply find_tail)) (by first  | rfl) | exact keeps_self | apply keeps_mv)) ?_
  exact ⟨congrArg (Value.int .u64) (succ_bits r i hr hi), rfl⟩

theorem box_load (k : Bool) : ((arrL 9 (bxV k 7)).drop 0).take 9 = [.int .u64 ((65536 + hd k : Nat) : Int), .int .u64 ((65536 + nd k 0 : Nat) : Int), .int .u64 ((65536 + nd k 1 : Nat) : Int), .int .u64 ((65536 + nd k 2 : Nat) : Int), .int .u64 ((65536 + nd k 3 : Nat) : Int), .int .u64 ((65536 + nd k 4 : Nat) : Int), .int .u64 ((65536 + nd k 5 : Nat) : Int), .int .u64 ((65536 + nd k 6 : Nat) : Int), .int .i64 (wd k : Int)] := by rw [bxV_all]; rfl

/-- the words of a new box -/
structure BoxInit (m m' : MS) (k : Bool) (st : Nat) : Prop where
  pre : PreL m' (en k)
  word : ∀ c, m'.word c = if hd k + 1 ≤ c ∧ c < hd k + 7 then ((c - hd k : Nat) : Int) else if c = hd k then ((st * 256 % 18446744073709551616 : Nat) : Int) else if c = nd k 0 then 0 else m.word c
def spareTo (w : Nat → Int) (k : Bool) (st t : Nat) (c : Nat) : Int := if hd k + 1 ≤ c ∧ c < hd k + 1 + t then ((c - hd k : Nat) : Int) else if c = hd k then ((st * 256 % 18446744073709551616 : Nat) : Int) else if c = nd k 0 then 0 else w c
theorem spareTo_succ (w : Nat → Int) (k : Bool) (st t : Nat) : updF (spareTo w k st t) (hd k + 1 + t) ((t + 1 : Nat) : Int) = spareTo w k st (t + 1) := by
  funext c; unfold updF spareTo
  by_cases e : c = hd k + 1 + t
  · subst e; rw [if_pos rfl, if_pos (by omega)]; congr 1; omega
  · rw [if_neg e]
    by_cases e2 : hd k + 1 ≤ c ∧ c < hd k + 1 + t
    · rw [if_pos e2, if_pos (by omega)]
    · rw [if_neg e2, if_neg (show ¬ (hd k + 1 ≤ c ∧ c < hd k + 1 + (t + 1)) by omega)]
theorem shl8 (st : Nat) : IntKind.u64.wrap ((st : Int) * 2 ^ (min (Int.toNat 8) IntKind.u64.bits)) = ((st * 256 % 18446744073709551616 : Nat) : Int) := by
  show IntKind.u64.wrap ((st : Int) * 256) = _
  have : IntKind.u64.wrap ((st : Int) * 256) = ((st : Int) * 256) % 18446744073709551616 := by simp only [IntKind.wrap, IntKind.bits, IntKind.signed]; simp
  rw [this]; omega
theorem spareTo_zero {w w' : Nat → Int} {k : Bool} {st : Nat} (h : w' = w) : (updF (updF w' (nd k 0) 0) (hd k) (IntKind.u64.wrap ((st : Int) * 2 ^ (min (Int.toNat 8) IntKind.u64.bits)))) = spareTo w k st 0 := by
  have hz := (nd_zero k).1
  subst h
  funext c; unfold updF spareTo
  rw [if_neg (show ¬ (hd k + 1 ≤ c ∧ c < hd k + 1 + 0) by omega)]
  by_cases e : c = hd k
  · rw [if_pos e, if_pos e]; exact shl8 st
  · rw [if_neg e, if_neg e]

set_option maxHeartbeats 1000000 in
theorem newBox_spec (b : Nat) (m : MS) (k : Bool) (st : Nat) (hp : PreL m (hd k)) : Sp Tryz.prog 34 #[.pointer (some ⟨b, 0, none⟩), .int .i64 (wd k : Int), .int .u64 st] [(b, C (arrL 16391 (encM m)) 116)] (fun v F' => v = .tuple #[.agg ⟨[.int .u64 ((65536 + hd k : Nat) : Int), .int .u64 ((65536 + nd k 0 : Nat) : Int), .int .u64 ((65536 + nd k 1 : Nat) : Int), .int .u64 ((65536 + nd k 2 : Nat) : Int), .int .u64 ((65536 + nd k 3 : Nat) : Int), .int .u64 ((65536 + nd k 4 : Nat) : Int), .int .u64 ((65536 + nd k 5 : Nat) : Int), .int .u64 ((65536 + nd k 6 : Nat) : Int), .int .i64 (wd k : Int)]⟩, .bool true] ∧ ∃ m', F' = [(b, C (arrL 16391 (encM m')) 116)] ∧ BoxInit m m' k st) := by
  refine f_enter (args := [.pointer (some ⟨b, 0, none⟩), .int .i64 (wd k : Int), .int .u64 st]) Tryz.func34 rfl Tryz.ntmps34 rfl ?_
  intro w0 w a hpre hl hh
  have hle := hd_le k; have hwl := wd_le k; obtain ⟨hz1, hz2⟩ := nd_zero k; have hn7 := nd_le k 7 (by omega)
  simp only [slotsFrom, Nat.reduceAdd] at hl
  refine c_seq ?_
  refine c_region ?_
  refine wl (w_alloc hl hh rfl trivial zero69 rfl ?_)
  clear hl hh a w; intro k6 a w hl hh
  refine wl (wl_val hl rfl trivial (r_assign hl rfl) ?_)
  clear hl a; intro a hl
  refine w_nil ?_
  have hl2 := hl.add (t := 0) (hl.add (t := 1) (hl.add (t := 2) (hl.add (t := 6) (hl.nil) rfl) rfl) rfl) rfl; clear hl; have hl := hl2; clear hl2
  refine then_normal ?_
  refine c_seq ?_
  refine c_region ?_
  refine wl (wl_val hl rfl trivial (r_move hl rfl) ?_)
  clear hl a; intro a hl
  refine wl (wl_val hl rfl trivial (r_build hl rfl zero69 bld69 (by simp only [fillL, setL, List.getElem?_cons_zero, List.getElem?_cons_succ, Value.cells, List.take_zero, List.take_succ_cons, List.take_nil, List.drop_zero, List.drop_succ_cons, List.drop_nil, List.length_cons, List.length_nil, List.cons_append, List.nil_append, List.append_nil, Nat.zero_add, Nat.add_zero, Nat.reduceAdd, Nat.reduceBEq, Nat.reduceEqDiff, Nat.ble, BEq.rfl, Bool.and_true, Bool.and_self, cond_true, beq_self_eq_true]; rfl)) ?_)
  clear hl a; intro a hl
  refine wl (w_alloc hl hh rfl trivial zero69 rfl ?_)
  clear hl hh a w; intro k8 a w hl hh
  refine wl (w_storeA hl hh trivial agg69 rfl rfl (by repeat (first | exact find_head | apply find_tail)) (by first | rfl | (simp; done) | exact box_load k) (by first | (simp; done) | (simp; omega)) (by first | rfl | (simp; done)) (by first | (simp only [setL, List.getElem?_cons_zero, List.getElem?_cons_succ, Value.cells, List.take_zero, List.take_succ_cons, List.take_nil, List.drop_zero, List.drop_succ_cons, List.drop_nil, List.length_cons, List.length_nil, List.cons_append, List.nil_append, List.append_nil, Nat.zero_add, Nat.add_zero, Nat.reduceAdd, Nat.reduceBEq, Nat.reduceEqDiff, Nat.ble, BEq.rfl, Bool.and_true, Bool.and_self, cond_true, beq_self_eq_true]; rfl)) ?_)
  clear hh w; intro w hh
  refine w_nil ?_
  have hl2 := hl.add (t := 0) (hl.add (t := 1) (hl.add (t := 2) (hl.add (t := 6) (hl.add (t := 8) (hl.nil) rfl) rfl) rfl) rfl) rfl; clear hl; have hl := hl2; clear hl2
  refine then_normal ?_
  refine c_seq ?_
  refine c_region ?_
  refine wl (wl_val hl rfl trivial (r_assign hl rfl) ?_)
  clear hl a; intro a hl
  refine w_nil ?_
  have hl2 := hl.add (t := 0) (hl.add (t := 1) (hl.add (t := 2) (hl.add (t := 6) (hl.add (t := 8) (hl.nil) rfl) rfl) rfl) rfl) rfl; clear hl; have hl := hl2; clear hl2
  refine then_normal ?_
  refine c_seq ?_
  refine c_seq ?_
  refine c_region ?_
  refine wl (wl_val hl rfl trivial (r_move hl rfl) ?_)
  clear hl a; intro a hl
  refine wl (w_call hl hh rfl trivial rfl cal52 rfl (alloc_spec b m (hd k) 7 8 rfl (by omega) (by omega) (by omega) (by omega) hp.live hp.gen) (by repeat (first | exact keeps_nil | apply keeps_cons (by repeat (first | exact find_head | apply find_tail)) (by first  | rfl) | exact keeps_self | apply keeps_mv)) trivial ?_)
  clear hl hh a w; intro vc Fc a w hR hl hh
  obtain ⟨rfl, rfl⟩ := hR
  try simp only [List.cons_append, List.nil_append] at hh
  obtain ⟨hp1, hw1⟩ := hp.alloc (s := 8) (by omega) (by omega) (by omega) (by omega) (SZ_hd k) (by omega); generalize allocF m (hd k) 8 = m1 at hh hp1 hw1; rw [show hd k + 8 = nd k 0 by omega] at hp1
  refine wl (wl_val hl rfl trivial (r_move hl rfl) ?_)
  clear hl a; intro a hl
  refine wl (wl_val hl rfl trivial (r_extract hl rfl (by simp only [List.getElem?_toArray, List.getElem?_cons_zero, List.getElem?_cons_succ]; rfl)) ?_)
  clear hl a; intro a hl
  refine wl (wl_val hl rfl trivial (r_extract hl rfl (by simp only [List.getElem?_toArray, List.getElem?_cons_zero, List.getElem?_cons_succ]; rfl)) ?_)
  clear hl a; intro a hl
  refine wl (wl_val hl rfl trivial (r_field hl rfl fld69_0) ?_)
  clear hl a; intro a hl
  refine wl (w_store hl hh trivial one66 rfl rfl (by repeat (first | exact find_head | apply find_tail)) (by first | (simp; done) | (simp; omega)) (by first | rfl | assumption | (apply Row.one; assumption)) (by first | (simp only [setL, List.getElem?_cons_zero, List.getElem?_cons_succ, Value.cells, List.take_zero, List.take_succ_cons, List.take_nil, List.drop_zero, List.drop_succ_cons, List.drop_nil, List.length_cons, List.length_nil, List.cons_append, List.nil_append, List.append_nil, Nat.zero_add, Nat.add_zero, Nat.reduceAdd, Nat.reduceBEq, Nat.reduceEqDiff, Nat.ble, BEq.rfl, Bool.and_true, Bool.and_self, cond_true, beq_self_eq_true]; rfl)) ?_)
  clear hh w; intro w hh
  refine wl (wl_val hl rfl trivial (r_assign hl rfl) ?_)
  clear hl a; intro a hl
  refine w_nil ?_
  have hl2 := hl.add (t := 0) (hl.add (t := 1) (hl.add (t := 2) (hl.add (t := 6) (hl.add (t := 8) (hl.add (t := 9) (hl.nil) rfl) rfl) rfl) rfl) rfl) rfl; clear hl; have hl := hl2; clear hl2
  refine then_normal ?_
  refine c_seq ?_
  refine c_region ?_
  refine wl (wl_val hl rfl trivial (r_move hl rfl) ?_)
  clear hl a; intro a hl
  refine wl (wl_val hl rfl trivial (r_neq hl rfl rfl) ?_)
  clear hl a; intro a hl
  refine w_nil ?_
  have hl2 := hl.add (t := 0) (hl.add (t := 1) (hl.add (t := 2) (hl.add (t := 6) (hl.add (t := 8) (hl.add (t := 21) (hl.nil) rfl) rfl) rfl) rfl) rfl) rfl; clear hl; have hl := hl2; clear hl2
  refine then_normal ?_
  refine c_cond hl rfl ?_ ?_
  · intro hc0
    try simp only [decide_eq_true_eq, decide_eq_false_iff_not, Bool.not_eq_true', Bool.not_eq_false', Bool.not_eq_true, Bool.not_eq_false, Bool.and_eq_true, Bool.or_eq_true, Bool.and_eq_false_iff, Bool.or_eq_false_iff, Bool.not_not, ne_eq, Int.not_lt, Int.not_le, Decidable.not_not, beq_iff_eq, bne_iff_ne] at hc0
    exfalso; first | omega | (simp at *; done) | (simp at *; omega)
  · intro hc0
    try simp only [decide_eq_true_eq, decide_eq_false_iff_not, Bool.not_eq_true', Bool.not_eq_false', Bool.not_eq_true, Bool.not_eq_false, Bool.and_eq_true, Bool.or_eq_true, Bool.and_eq_false_iff, Bool.or_eq_false_iff, Bool.not_not, ne_eq, Int.not_lt, Int.not_le, Decidable.not_not, beq_iff_eq, bne_iff_ne] at hc0
    refine wp_skip ?_
    refine then_normal ?_
    refine c_seq ?_
    refine c_seq ?_
    refine c_region ?_
    refine wl (wl_val hl rfl trivial (r_move hl rfl) ?_)
    clear hl a; intro a hl
    refine w_nil ?_
    have hl2 := hl.add (t := 0) (hl.add (t := 1) (hl.add (t := 2) (hl.add (t := 6) (hl.add (t := 8) (hl.add (t := 23) (hl.nil) rfl) rfl) rfl) rfl) rfl) rfl; clear hl; have hl := hl2; clear hl2
    refine then_normal ?_
    refine wp_block ?_
    obtain ⟨KS0, hKS0, hk⟩ := (hl.add (t := 0) (hl.add (t := 1) (hl.add (t := 2) (hl.add (t := 6) (hl.add (t := 8) (hl.nil) rfl) rfl) rfl) rfl) rfl).name
    obtain ⟨HS0, hHS0, hh2⟩ := hh.name (keeps_cons (b := k8) (o' := C (arrL 9 (bxV k 0)) 69) (by repeat (first | exact find_head | apply find_tail)) (by first | exact bxV_start k | rfl) (keeps_cons (b := b) (o' := C (arrL 16391 (encM (m1))) 116) (by repeat (first | exact find_head | apply find_tail)) (by first | exact bxV_start k | rfl) (keeps_nil)))
    refine c_loop (α := Nat × MS) (fun s => 7 - s.1) (fun s a w => (s.1 ≤ 7 ∧ PreL s.2 (nd k s.1) ∧ s.2.word = m.word) ∧ Sl 69 ([(23, .int .i64 s.1)] ++ KS0) a ∧ Has _ w0 ([(k8, C (arrL 9 (bxV k s.1)) 69), (b, C (arrL 16391 (encM (s.2))) 116)] ++ HS0) w) (0, m1) ⟨⟨by simp, hp1, hw1⟩, hl.addE (t := 23) (hk) rfl (by first | rfl), hh2⟩ ?_
    clear hk hh2 hl hh a w
    intro s a w hI
    obtain ⟨⟨hi, hps, hws⟩, hl, hh⟩ := hI
    subst hKS0; subst hHS0
    simp only [List.cons_append, List.nil_append, List.append_nil] at hl hh
    have hns := nd_le k s.1 hi
    have hnx : s.1 < 7 → nd k s.1 + (1 + 8 * wd k + (1 + 8 * wd k) % 2) ≤ 4096 := fun h => by have := nd_le k (s.1 + 1) h; rw [nd_succ] at this; omega
    refine c_seq ?_
    refine c_region ?_
    refine wl (wl_val hl rfl trivial (r_lss hl rfl rfl) ?_)
    clear hl a; intro a hl
    refine w_nil ?_
    have hl2 := hl.add (t := 0) (hl.add (t := 1) (hl.add (t := 2) (hl.add (t := 6) (hl.add (t := 8) (hl.add (t := 23) (hl.add (t := 24) (hl.nil) rfl) rfl) rfl) rfl) rfl) rfl) rfl; clear hl; have hl := hl2; clear hl2
    refine then_normal ?_
    refine c_seq ?_
    refine c_cond hl rfl ?_ ?_
    · intro hc1
      try simp only [decide_eq_true_eq, decide_eq_false_iff_not, Bool.not_eq_true', Bool.not_eq_false', Bool.not_eq_true, Bool.not_eq_false, Bool.and_eq_true, Bool.or_eq_true, Bool.and_eq_false_iff, Bool.or_eq_false_iff, Bool.not_not, ne_eq, Int.not_lt, Int.not_le, Decidable.not_not, beq_iff_eq, bne_iff_ne] at hc1
      refine wp_skip ?_
      refine then_normal ?_
      refine c_seq ?_
      refine wp_block ?_
      refine c_seq ?_
      refine c_region ?_
      refine wl (wl_val hl rfl trivial (r_move hl rfl) ?_)
      clear hl a; intro a hl
      refine wl (wl_val hl rfl trivial (r_assign hl rfl) ?_)
      clear hl a; intro a hl
      refine w_nil ?_
      have hl2 := hl.add (t := 0) (hl.add (t := 1) (hl.add (t := 2) (hl.add (t := 6) (hl.add (t := 8) (hl.add (t := 10) (hl.add (t := 23) (hl.nil) rfl) rfl) rfl) rfl) rfl) rfl) rfl; clear hl; have hl := hl2; clear hl2
      refine then_normal ?_
      refine c_seq ?_
      refine c_region ?_
      refine wl (wl_val hl rfl trivial (r_move hl rfl) ?_)
      clear hl a; intro a hl
      refine wl (wl_val hl rfl trivial (r_move hl rfl) ?_)
      clear hl a; intro a hl
      refine wl (wl_val hl rfl trivial (r_move hl rfl) ?_)
      clear hl a; intro a hl
      refine wl (w_call hl hh rfl trivial rfl cal53 rfl (nodeCells_spec (wd k) hwl.2) (by repeat (first | exact keeps_nil | apply keeps_cons (by repeat (first | exact find_head | apply find_tail)) (by first  | rfl) | exact keeps_self | apply keeps_mv)) trivial ?_)
      clear hl hh a w; intro vc Fc a w hR hl hh
      obtain ⟨rfl, rfl⟩ := hR
      try simp only [List.cons_append, List.nil_append] at hh
      refine wl (w_call hl hh rfl trivial rfl cal52 rfl (alloc_spec b s.2 (nd k s.1) (1 + 8 * wd k) _ rfl (by omega) (by omega) (by omega) (by omega) hps.live hps.gen) (by repeat (first | exact keeps_nil | apply keeps_cons (by repeat (first | exact find_head | apply find_tail)) (by first  | rfl) | exact keeps_self | apply keeps_mv)) trivial ?_)
      clear hl hh a w; intro vc Fc a w hR hl hh
      obtain ⟨rfl, rfl⟩ := hR
      try simp only [List.cons_append, List.nil_append] at hh
      obtain ⟨hp2, hw2⟩ := hps.alloc (s := (1 + 8 * wd k) + (1 + 8 * wd k) % 2) (by omega) (by omega) (by omega) (by omega) (SZ_nd k s.1 (by omega)) (by omega); rw [← nd_succ] at hp2; generalize allocF s.2 (nd k s.1) ((1 + 8 * wd k) + (1 + 8 * wd k) % 2) = m2 at hh hp2 hw2
      refine wl (wl_val hl rfl trivial (r_move hl rfl) ?_)
      clear hl a; intro a hl
      refine wl (wl_val hl rfl trivial (r_extract hl rfl (by simp only [List.getElem?_toArray, List.getElem?_cons_zero, List.getElem?_cons_succ]; rfl)) ?_)
      clear hl a; intro a hl
      refine wl (wl_val hl rfl trivial (r_extract hl rfl (by simp only [List.getElem?_toArray, List.getElem?_cons_zero, List.getElem?_cons_succ]; rfl)) ?_)
      clear hl a; intro a hl
      refine wl (wl_val hl rfl trivial (r_field hl rfl fld69_1) ?_)
      clear hl a; intro a hl
      refine wl (wl_val hl rfl trivial (r_indexA hl rfl rfl arr67 (by omega) (by omega) (by first | (simp only [Int.reduceToNat]; rfl) | exact toNat_add1 _ | exact toNat_add2 _ _ | exact toNat_emod _ _ | exact Int.toNat_natCast _ | rfl)) ?_)
      clear hl a; intro a hl
      refine wl (w_store hl hh trivial one66 rfl rfl (by repeat (first | exact find_head | apply find_tail)) (by rw [arrL_length]; omega) (by first | rfl | assumption | (apply Row.one; assumption)) (by exact bxV_succ _ _ (by omega)) ?_)
      clear hh w; intro w hh
      refine wl (wl_val hl rfl trivial (r_assign hl rfl) ?_)
      clear hl a; intro a hl
      refine w_nil ?_
      have hl2 := hl.add (t := 0) (hl.add (t := 1) (hl.add (t := 2) (hl.add (t := 6) (hl.add (t := 8) (hl.add (t := 9) (hl.add (t := 23) (hl.nil) rfl) rfl) rfl) rfl) rfl) rfl) rfl; clear hl; have hl := hl2; clear hl2
      refine then_normal ?_
      refine c_seq ?_
      refine c_region ?_
      refine wl (wl_val hl rfl trivial (r_move hl rfl) ?_)
      clear hl a; intro a hl
      refine wl (wl_val hl rfl trivial (r_neq hl rfl rfl) ?_)
      clear hl a; intro a hl
      refine w_nil ?_
      have hl2 := hl.add (t := 0) (hl.add (t := 1) (hl.add (t := 2) (hl.add (t := 6) (hl.add (t := 8) (hl.add (t := 23) (hl.add (t := 37) (hl.nil) rfl) rfl) rfl) rfl) rfl) rfl) rfl; clear hl; have hl := hl2; clear hl2
      refine then_normal ?_
      refine c_cond hl rfl ?_ ?_
      · intro hc2
        try simp only [decide_eq_true_eq, decide_eq_false_iff_not, Bool.not_eq_true', Bool.not_eq_false', Bool.not_eq_true, Bool.not_eq_false, Bool.and_eq_true, Bool.or_eq_true, Bool.and_eq_false_iff, Bool.or_eq_false_iff, Bool.not_not, ne_eq, Int.not_lt, Int.not_le, Decidable.not_not, beq_iff_eq, bne_iff_ne] at hc2
        exfalso; first | omega | (simp at *; done) | (simp at *; omega)
      · intro hc2
        try simp only [decide_eq_true_eq, decide_eq_false_iff_not, Bool.not_eq_true', Bool.not_eq_false', Bool.not_eq_true, Bool.not_eq_false, Bool.and_eq_true, Bool.or_eq_true, Bool.and_eq_false_iff, Bool.or_eq_false_iff, Bool.not_not, ne_eq, Int.not_lt, Int.not_le, Decidable.not_not, beq_iff_eq, bne_iff_ne] at hc2
        refine wp_skip ?_
        refine blk_normal ?_
        refine then_normal ?_
        refine c_region ?_
        first | refine wl (wl_val hl rfl trivial (r_add hl rfl rfl (by simp only [Fits]; omega)) ?_) | refine wl (wl_val hl rfl trivial (r_addW hl rfl rfl) ?_)
        clear hl a; intro a hl
        refine wl (wl_val hl rfl trivial (r_move hl rfl) ?_)
        clear hl a; intro a hl
        refine w_nil ?_
        have hl2 := hl.add (t := 0) (hl.add (t := 1) (hl.add (t := 2) (hl.add (t := 6) (hl.add (t := 8) (hl.add (t := 23) (hl.nil) rfl) rfl) rfl) rfl) rfl) rfl; clear hl; have hl := hl2; clear hl2
        refine then_normal ?_
        refine ⟨(s.1 + 1, m2), (by simp only; omega), ⟨by simp only; omega, hp2, hw2.trans hws⟩, hl.addE (t := 23) (hl.addE (t := 0) (hl.addE (t := 1) (hl.addE (t := 2) (hl.addE (t := 6) (hl.addE (t := 8) (hl.nil) rfl (by first | rfl | rfl)) rfl (by first | rfl | rfl)) rfl (by first | rfl | rfl)) rfl (by first | rfl | rfl)) rfl (by first | rfl | rfl)) rfl (by first | rfl | rfl), hh.keep (by repeat (first | exact keeps_nil | apply keeps_cons (by repeat (first | exact find_head | apply find_tail)) (by first  | rfl) | exact keeps_self | apply keeps_mv))⟩
    · intro hc1
      try simp only [decide_eq_true_eq, decide_eq_false_iff_not, Bool.not_eq_true', Bool.not_eq_false', Bool.not_eq_true, Bool.not_eq_false, Bool.and_eq_true, Bool.or_eq_true, Bool.and_eq_false_iff, Bool.or_eq_false_iff, Bool.not_not, ne_eq, Int.not_lt, Int.not_le, Decidable.not_not, beq_iff_eq, bne_iff_ne] at hc1
      have hs7 : s.1 = 7 := by omega
      rw [hs7] at hps hh
      refine wp_exit ?_
      refine then_exit ?_
      refine then_exit ?_
      refine blk_exit ?_
      refine then_normal ?_
      refine c_seq ?_
      refine c_region ?_
      refine wl (wl_val hl rfl trivial (r_move hl rfl) ?_)
      clear hl a; intro a hl
      refine wl (wl_val hl rfl trivial (r_field hl rfl fld69_1) ?_)
      clear hl a; intro a hl
      refine wl (wl_val hl rfl trivial (r_indexA hl rfl rfl arr67 (by omega) (by omega) (by first | (simp only [Int.reduceToNat]; rfl) | exact toNat_add1 _ | exact toNat_add2 _ _ | exact toNat_emod _ _ | exact Int.toNat_natCast _ | rfl)) ?_)
      clear hl a; intro a hl
      refine wl (w_load hl hh rfl trivial one66 rfl (by repeat (first | exact find_head | apply find_tail)) (by exact arrL_get (i := 1) (by omega)) ?_)
      clear hl a; intro a hl
      refine wl (w_call hl hh rfl trivial rfl cal56 rfl (refAddr_spec _) (by repeat (first | exact keeps_nil | apply keeps_cons (by repeat (first | exact find_head | apply find_tail)) (by first  | rfl) | exact keeps_self | apply keeps_mv)) trivial ?_)
      clear hl hh a w; intro vc Fc a w hR hl hh
      obtain ⟨rfl, rfl⟩ := hR
      try simp only [List.cons_append, List.nil_append] at hh
      rw [show (65536 + nd k (1 - 1)) % 65536 = nd k 0 from ref_mod _ (show nd k 0 < 65536 by omega)] at hl
      first | refine wl (wl_val hl rfl trivial (r_add hl rfl rfl (by simp only [Fits]; omega)) ?_) | refine wl (wl_val hl rfl trivial (r_addW hl rfl rfl) ?_)
      clear hl a; intro a hl
      refine wl (w_call hl hh rfl trivial rfl cal55 rfl (store_spec b s.2 (nd k 0) 0 (by omega)) (by repeat (first | exact keeps_nil | apply keeps_cons (by repeat (first | exact find_head | apply find_tail)) (by first  | rfl) | exact keeps_self | apply keeps_mv)) trivial ?_)
      clear hl hh a w; intro vc Fc a w hR hl hh
      obtain ⟨rfl, rfl⟩ := hR
      try simp only [List.cons_append, List.nil_append] at hh
      refine w_nil ?_
      have hl2 := hl.add (t := 0) (hl.add (t := 2) (hl.add (t := 6) (hl.add (t := 8) (hl.nil) rfl) rfl) rfl) rfl; clear hl; have hl := hl2; clear hl2
      refine then_normal ?_
      refine c_seq ?_
      refine c_region ?_
      refine wl (wl_val hl rfl trivial (r_move hl rfl) ?_)
      clear hl a; intro a hl
      refine wl (w_loadA hl hh rfl trivial agg69 rfl (by repeat (first | exact find_head | apply find_tail)) (by first | exact box_load k | (simp only [List.getElem?_cons_zero, List.getElem?_cons_succ, Value.cells, List.take_zero, List.take_succ_cons, List.take_nil, List.drop_zero, List.drop_succ_cons, List.drop_nil, List.length_cons, List.length_nil, List.cons_append, List.nil_append, List.append_nil, Nat.zero_add, Nat.add_zero, Nat.reduceAdd, Nat.reduceBEq, Nat.reduceEqDiff, Nat.ble, BEq.rfl, Bool.and_true, Bool.and_self, cond_true, beq_self_eq_true]; rfl)) (by first | rfl | (simp; done)) ?_)
      clear hl a; intro a hl
      refine wl (w_call hl hh rfl trivial rfl cal57 rfl (rootCell_spec k) (by repeat (first | exact keeps_nil | apply keeps_cons (by repeat (first | exact find_head | apply find_tail)) (by first  | rfl) | exact keeps_self | apply keeps_mv)) trivial ?_)
      clear hl hh a w; intro vc Fc a w hR hl hh
      obtain ⟨rfl, rfl⟩ := hR
      try simp only [List.cons_append, List.nil_append] at hh
      refine wl (wl_val hl rfl trivial (r_move hl rfl) ?_)
      clear hl a; intro a hl
      refine wl (wl_val hl rfl trivial (r_shl hl rfl rfl (by omega)) ?_)
      clear hl a; intro a hl
      refine wl (w_call hl hh rfl trivial rfl cal55 rfl (store_spec b _ (hd k) _ (by omega)) (by repeat (first | exact keeps_nil | apply keeps_cons (by repeat (first | exact find_head | apply find_tail)) (by first  | rfl) | exact keeps_self | apply keeps_mv)) trivial ?_)
      clear hl hh a w; intro vc Fc a w hR hl hh
      obtain ⟨rfl, rfl⟩ := hR
      try simp only [List.cons_append, List.nil_append] at hh
      refine w_nil ?_
      have hl2 := hl.add (t := 0) (hl.add (t := 6) (hl.add (t := 8) (hl.nil) rfl) rfl) rfl; clear hl; have hl := hl2; clear hl2
      refine then_normal ?_
      refine c_seq ?_
      refine c_seq ?_
      refine c_region ?_
      refine wl (wl_val hl rfl trivial (r_assign hl rfl) ?_)
      clear hl a; intro a hl
      refine w_nil ?_
      have hl2 := hl.add (t := 0) (hl.add (t := 6) (hl.add (t := 8) (hl.add (t := 11) (hl.nil) rfl) rfl) rfl) rfl; clear hl; have hl := hl2; clear hl2
      refine then_normal ?_
      refine wp_block ?_
      obtain ⟨KS1, hKS1, hk⟩ := (hl.add (t := 0) (hl.add (t := 6) (hl.add (t := 8) (hl.nil) rfl) rfl) rfl).name
      obtain ⟨HS1, hHS1, hh2⟩ := hh.name (keeps_cons (b := b) (o' := C (arrL 16391 (encM (putF (beginF (putF (beginF s.2 2 (nd k 0)) 0 (nd k 0)) 2 (hd k)) (IntKind.u64.wrap ((st : Int) * 2 ^ (min (Int.toNat 8) IntKind.u64.bits))) (hd k)))) 116) (by repeat (first | exact find_head | apply find_tail)) (by first | rfl) (keeps_nil))
      refine c_loop (α := Nat × MS) (fun s3 => 6 - s3.1) (fun s3 a w => (s3.1 ≤ 6 ∧ PreL s3.2 (nd k 7) ∧ s3.2.word = spareTo m.word k st s3.1) ∧ Sl 69 ([(11, .int .i64 s3.1)] ++ KS1) a ∧ Has _ w0 ([(b, C (arrL 16391 (encM (s3.2))) 116)] ++ HS1) w) (0, putF (beginF (putF (beginF s.2 2 (nd k 0)) 0 (nd k 0)) 2 (hd k)) (IntKind.u64.wrap ((st : Int) * 2 ^ (min (Int.toNat 8) IntKind.u64.bits))) (hd k)) ⟨⟨by simp, hps.word rfl rfl rfl ((hps.mw.store 0 (nd k 0) (by simp only [Fits]; omega) (by omega)).store _ (hd k) (fits_wrap _ _) (by omega)), spareTo_zero hws⟩, hl.addE (t := 11) (hk) rfl (by first | rfl), hh2⟩ ?_
      clear hk hh2 hl hh a w
      intro s3 a w hI
      obtain ⟨⟨hi3, hps3, hws3⟩, hl, hh⟩ := hI
      subst hKS1; subst hHS1
      simp only [List.cons_append, List.nil_append, List.append_nil] at hl hh
      refine c_seq ?_
      refine c_seq ?_
      refine c_region ?_
      refine wl (wl_val hl rfl trivial (r_move hl rfl) ?_)
      clear hl a; intro a hl
      refine wl (wl_val hl rfl trivial (r_lss hl rfl rfl) ?_)
      clear hl a; intro a hl
      refine w_nil ?_
      have hl2 := hl.add (t := 0) (hl.add (t := 6) (hl.add (t := 8) (hl.add (t := 11) (hl.add (t := 57) (hl.nil) rfl) rfl) rfl) rfl) rfl; clear hl; have hl := hl2; clear hl2
      refine then_normal ?_
      refine c_cond hl rfl ?_ ?_
      · intro hc3
        try simp only [decide_eq_true_eq, decide_eq_false_iff_not, Bool.not_eq_true', Bool.not_eq_false', Bool.not_eq_true, Bool.not_eq_false, Bool.and_eq_true, Bool.or_eq_true, Bool.and_eq_false_iff, Bool.or_eq_false_iff, Bool.not_not, ne_eq, Int.not_lt, Int.not_le, Decidable.not_not, beq_iff_eq, bne_iff_ne] at hc3
        refine wp_skip ?_
        refine then_normal ?_
        refine c_seq ?_
        refine wp_block ?_
        refine c_region ?_
        refine wl (wl_val hl rfl trivial (r_move hl rfl) ?_)
        clear hl a; intro a hl
        refine wl (w_loadA hl hh rfl trivial agg69 rfl (by repeat (first | exact find_head | apply find_tail)) (by first | exact box_load k | (simp only [List.getElem?_cons_zero, List.getElem?_cons_succ, Value.cells, List.take_zero, List.take_succ_cons, List.take_nil, List.drop_zero, List.drop_succ_cons, List.drop_nil, List.length_cons, List.length_nil, List.cons_append, List.nil_append, List.append_nil, Nat.zero_add, Nat.add_zero, Nat.reduceAdd, Nat.reduceBEq, Nat.reduceEqDiff, Nat.ble, BEq.rfl, Bool.and_true, Bool.and_self, cond_true, beq_self_eq_true]; rfl)) (by first | rfl | (simp; done)) ?_)
        clear hl a; intro a hl
        refine wl (wl_val hl rfl trivial (r_move hl rfl) ?_)
        clear hl a; intro a hl
        refine wl (w_call hl hh rfl trivial rfl cal58 rfl (spareCell_spec k s3.1 (by omega)) (by repeat (first | exact keeps_nil | apply keeps_cons (by repeat (first | exact find_head | apply find_tail)) (by first  | rfl) | exact keeps_self | apply keeps_mv)) trivial ?_)
        clear hl hh a w; intro vc Fc a w hR hl hh
        obtain ⟨rfl, rfl⟩ := hR
        try simp only [List.cons_append, List.nil_append] at hh
        refine wl (wl_val hl rfl trivial (r_move hl rfl) ?_)
        clear hl a; intro a hl
        first | refine wl (wl_val hl rfl trivial (r_add hl rfl rfl (by simp only [Fits]; omega)) ?_) | refine wl (wl_val hl rfl trivial (r_addW hl rfl rfl) ?_)
        clear hl a; intro a hl
        first | refine wl (wl_val hl rfl trivial (r_conv hl rfl Tryz.underlying3 Tryz.underlying37 (by simp only [Fits]; omega)) ?_) | refine wl (wl_val hl rfl trivial (r_convW hl rfl Tryz.underlying3 Tryz.underlying37) ?_)
        clear hl a; intro a hl
        refine wl (w_call hl hh rfl trivial rfl cal55 rfl (store_spec b s3.2 (hd k + 1 + s3.1) _ (by omega)) (by repeat (first | exact keeps_nil | apply keeps_cons (by repeat (first | exact find_head | apply find_tail)) (by first  | rfl) | exact keeps_self | apply keeps_mv)) trivial ?_)
        clear hl hh a w; intro vc Fc a w hR hl hh
        obtain ⟨rfl, rfl⟩ := hR
        try simp only [List.cons_append, List.nil_append] at hh
        refine w_nil ?_
        have hl2 := hl.add (t := 0) (hl.add (t := 6) (hl.add (t := 8) (hl.add (t := 11) (hl.nil) rfl) rfl) rfl) rfl; clear hl; have hl := hl2; clear hl2
        refine blk_normal ?_
        refine then_normal ?_
        refine c_region ?_
        refine wl (wl_val hl rfl trivial (r_move hl rfl) ?_)
        clear hl a; intro a hl
        first | refine wl (wl_val hl rfl trivial (r_add hl rfl rfl (by simp only [Fits]; omega)) ?_) | refine wl (wl_val hl rfl trivial (r_addW hl rfl rfl) ?_)
        clear hl a; intro a hl
        refine wl (wl_val hl rfl trivial (r_assign hl rfl) ?_)
        clear hl a; intro a hl
        refine w_nil ?_
        have hl2 := hl.add (t := 0) (hl.add (t := 6) (hl.add (t := 8) (hl.add (t := 11) (hl.nil) rfl) rfl) rfl) rfl; clear hl; have hl := hl2; clear hl2
        refine then_normal ?_
        refine ⟨(s3.1 + 1, putF (beginF s3.2 2 (hd k + 1 + s3.1)) (s3.1 + 1) (hd k + 1 + s3.1)), (by simp only; omega), ⟨by simp only; omega, hps3.word rfl rfl rfl (hps3.mw.store _ (hd k + 1 + s3.1) (by simp only [Fits]; omega) (by omega)), (show updF s3.2.word _ _ = _ from by rw [hws3]; exact spareTo_succ _ _ _ _)⟩, hl.addE (t := 11) (hl.addE (t := 0) (hl.addE (t := 6) (hl.addE (t := 8) (hl.nil) rfl (by first | rfl | rfl)) rfl (by first | rfl | rfl)) rfl (by first | rfl | rfl)) rfl (by first | rfl | rfl), hh.keep (by repeat (first | exact keeps_nil | apply keeps_cons (by repeat (first | exact find_head | apply find_tail)) (by first  | rfl) | exact keeps_self | apply keeps_mv))⟩
      · intro hc3
        try simp only [decide_eq_true_eq, decide_eq_false_iff_not, Bool.not_eq_true', Bool.not_eq_false', Bool.not_eq_true, Bool.not_eq_false, Bool.and_eq_true, Bool.or_eq_true, Bool.and_eq_false_iff, Bool.or_eq_false_iff, Bool.not_not, ne_eq, Int.not_lt, Int.not_le, Decidable.not_not, beq_iff_eq, bne_iff_ne] at hc3
        have hs6 : s3.1 = 6 := by omega
        rw [hs6] at hws3
        refine wp_exit ?_
        refine then_exit ?_
        refine then_exit ?_
        refine blk_exit ?_
        refine then_normal ?_
        refine c_seq ?_
        refine c_region ?_
        refine wl (w_loadA hl hh rfl trivial agg69 rfl (by repeat (first | exact find_head | apply find_tail)) (by first | exact box_load k | (simp only [List.getElem?_cons_zero, List.getElem?_cons_succ, Value.cells, List.take_zero, List.take_succ_cons, List.take_nil, List.drop_zero, List.drop_succ_cons, List.drop_nil, List.length_cons, List.length_nil, List.cons_append, List.nil_append, List.append_nil, Nat.zero_add, Nat.add_zero, Nat.reduceAdd, Nat.reduceBEq, Nat.reduceEqDiff, Nat.ble, BEq.rfl, Bool.and_true, Bool.and_self, cond_true, beq_self_eq_true]; rfl)) (by first | rfl | (simp; done)) ?_)
        clear hl a; intro a hl
        refine wl (w_storeA hl hh trivial agg69 rfl rfl (by repeat (first | exact find_head | apply find_tail)) (by first | rfl | (simp; done) | exact box_load k) (by first | (simp; done) | (simp; omega)) (by first | rfl | (simp; done)) (by first | (simp only [setL, List.getElem?_cons_zero, List.getElem?_cons_succ, Value.cells, List.take_zero, List.take_succ_cons, List.take_nil, List.drop_zero, List.drop_succ_cons, List.drop_nil, List.length_cons, List.length_nil, List.cons_append, List.nil_append, List.append_nil, Nat.zero_add, Nat.add_zero, Nat.reduceAdd, Nat.reduceBEq, Nat.reduceEqDiff, Nat.ble, BEq.rfl, Bool.and_true, Bool.and_self, cond_true, beq_self_eq_true]; rfl)) ?_)
        clear hh w; intro w hh
        refine wl (wl_val hl rfl trivial (r_assign hl rfl) ?_)
        clear hl a; intro a hl
        refine w_nil ?_
        have hl2 := hl.add (t := 6) (hl.add (t := 7) (hl.nil) rfl) rfl; clear hl; have hl := hl2; clear hl2
        refine then_normal ?_
        refine wp_ret ?_
        refine f_retCT (F' := [(b, C (arrL 16391 (encM s3.2)) 116)]) hl hh rfl rfl agg69 (by repeat (first | exact find_head | apply find_tail)) (by first | rfl | (simp; done)) rfl (by repeat (first | exact keeps_nil | apply keeps_cons (by repeat (first | exact find_head | apply find_tail)) (by first  | rfl) | exact keeps_self | apply keeps_mv)) ?_
        exact ⟨rfl, s3.2, rfl, ⟨by rw [← nd_seven]; exact hps3, fun c => by rw [hws3]; unfold spareTo; rw [show hd k + 1 + 6 = hd k + 7 by omega]⟩⟩
end Go.Proofs.Qxb6500914aGreat

import Derived.Test.Qxb6500911aGreatDoorA20
namespace Go.Proofs.Qxb6500911aGreatDoor
open Go.Eng
set_option linter.unusedVariables false
set_option linter.unusedSimpArgs false
theorem shp77 : shapeT Tryz.prog 8 77 = some [.int .i64, .int .i64, .int .u32, .int .u64, .int .u64, .int .u64, .int .u64] := by kernel_rfl
theorem eqf77 : eqOk Tryz.prog 8 77 = true := by kernel_rfl
theorem shp102 : shapeT Tryz.prog 8 102 = some [.int .i64, .int .i64, .int .u64, .int .i64] := by kernel_rfl
theorem eqf102 : eqOk Tryz.prog 8 102 = true := by kernel_rfl
theorem shp43 : shapeT Tryz.prog 8 43 = some [.int .u64, .int .u64, .int .u64, .int .u64, .int .u64, .int .u64, .int .u64, .int .u64, .int .u64, .int .u64, .int .u64, .int .u64, .int .u64, .int .u64, .int .u64, .int .u64] := by kernel_rfl
theorem eqf43 : eqOk Tryz.prog 8 43 = true := by kernel_rfl
theorem shp50 : shapeT Tryz.prog 8 50 = some [.int .u16, .int .u16, .int .u16, .int .u16, .int .u16, .int .u16, .int .u16, .int .u16, .int .u16, .int .u16, .int .u16, .int .u16, .int .u16, .int .u16, .int .u16, .int .u16] := by kernel_rfl
theorem eqf50 : eqOk Tryz.prog 8 50 = true := by kernel_rfl
theorem slc44 : slcOk Tryz.prog 44 4 = true := by kernel_rfl
theorem agg102 : aggOk Tryz.prog 102 4 = true := by kernel_rfl
theorem fld46_0 : fieldOk Tryz.prog 46 0 0 = true := by kernel_rfl
theorem fld46_1 : fieldOk Tryz.prog 46 1 16 = true := by kernel_rfl
theorem one44 : oneOk Tryz.prog 44 = true := by kernel_rfl
theorem cal63 : callable Tryz.prog 63 = true := by kernel_rfl
theorem fld52_0 : fieldOk Tryz.prog 52 0 0 = true := by kernel_rfl
theorem fld52_3 : fieldOk Tryz.prog 52 3 100 = true := by kernel_rfl
theorem cal36 : callable Tryz.prog 36 = true := by kernel_rfl
theorem cal37 : callable Tryz.prog 37 = true := by kernel_rfl
/-! ## like states compare as equal -/
section same
variable {P : Program} {n : Nat} {L : List (Nat × Value)} {a : Act} {w : World} {T : TypeId} {pos : String} {aft : Array Edge} {g : Option (Nat × Bool)} {dst : Option Nat} {x y : Operand}
theorem r_eqlSame {t u : TypeId} {m d : Nat} {xs : List Value} {lx : List Lit} {s : List TypeDesc} (hl : Sl n L a) (hx : val L x = some (.agg ⟨xs⟩)) (hy : val L y = some (.agg ⟨xs⟩)) (he : eqOk P m t = true) (hs : shapeT P d t = some s) (ux : unlitL xs = some lx) (ox : LitsFit s lx) : Gives P a ⟨dst, .binOp .eql t x y u, T, pos, aft, g⟩ w (.bool true) w := by
  have h := r_eqlA (dst := dst) (T := T) (pos := pos) (aft := aft) (g := g) (w := w) (u := u) hl hx hy he hs ux ux ox ox
  rw [(eqLits_iff ox.ok ox.ok).2 rfl] at h
  exact h
theorem r_neqSame {t u : TypeId} {m d : Nat} {xs : List Value} {lx : List Lit} {s : List TypeDesc} (hl : Sl n L a) (hx : val L x = some (.agg ⟨xs⟩)) (hy : val L y = some (.agg ⟨xs⟩)) (he : eqOk P m t = true) (hs : shapeT P d t = some s) (ux : unlitL xs = some lx) (ox : LitsFit s lx) : Gives P a ⟨dst, .binOp .neq t x y u, T, pos, aft, g⟩ w (.bool false) w := by
  have h := r_neqA (dst := dst) (T := T) (pos := pos) (aft := aft) (g := g) (w := w) (u := u) hl hx hy he hs ux ux ox ox
  rw [(eqLits_iff ox.ok ox.ok).2 rfl] at h
  exact h
end same
def l64 (g : Nat → Int) : List Lit := (List.range 16).map fun j => Lit.int .u64 (g j)
theorem unl64 (g : Nat → Int) : unlitL (arrL 16 fun j => .int .u64 (g j)) = some (l64 g) := by
  simp [unlitL, unlit, arrL, l64, List.range, List.range.loop]
theorem fit64 {g : Nat → Int} (h : ∀ j, j < 16 → 0 ≤ g j ∧ g j ≤ 1000000000000) : LitsFit [.int .u64, .int .u64, .int .u64, .int .u64, .int .u64, .int .u64, .int .u64, .int .u64, .int .u64, .int .u64, .int .u64, .int .u64, .int .u64, .int .u64, .int .u64, .int .u64] (l64 g) := by
  refine ⟨?_⟩
  have h0 := h 0 (by decide); have h1 := h 1 (by decide); have h2 := h 2 (by decide); have h3 := h 3 (by decide)
  have h4 := h 4 (by decide); have h5 := h 5 (by decide); have h6 := h 6 (by decide); have h7 := h 7 (by decide)
  have h8 := h 8 (by decide); have h9 := h 9 (by decide); have h10 := h 10 (by decide); have h11 := h 11 (by decide)
  have h12 := h 12 (by decide); have h13 := h 13 (by decide); have h14 := h 14 (by decide); have h15 := h 15 (by decide)
  simp [LitsOk, litOk, Fits, l64, List.range, List.range.loop]
  omega
def l16 (g : Nat → Int) : List Lit := (List.range 16).map fun j => Lit.int .u16 (g j)
theorem unl16 (g : Nat → BitVec 16) : unlitL (mskA g) = some (l16 (fun j => mi (g j))) := by
  simp [mskA, unlitL, unlit, arrL, l16, List.range, List.range.loop]
theorem fit16' {g : Nat → Int} (h : ∀ j, j < 16 → 0 ≤ g j ∧ g j ≤ 65535) : LitsFit [.int .u16, .int .u16, .int .u16, .int .u16, .int .u16, .int .u16, .int .u16, .int .u16, .int .u16, .int .u16, .int .u16, .int .u16, .int .u16, .int .u16, .int .u16, .int .u16] (l16 g) := by
  refine ⟨?_⟩
  have h0 := h 0 (by decide); have h1 := h 1 (by decide); have h2 := h 2 (by decide); have h3 := h 3 (by decide)
  have h4 := h 4 (by decide); have h5 := h 5 (by decide); have h6 := h 6 (by decide); have h7 := h 7 (by decide)
  have h8 := h 8 (by decide); have h9 := h 9 (by decide); have h10 := h 10 (by decide); have h11 := h 11 (by decide)
  have h12 := h 12 (by decide); have h13 := h 13 (by decide); have h14 := h 14 (by decide); have h15 := h 15 (by decide)
  simp [LitsOk, litOk, Fits, l16, List.range, List.range.loop]
  omega
theorem fit16 (g : Nat → BitVec 16) : LitsFit [.int .u16, .int .u16, .int .u16, .int .u16, .int .u16, .int .u16, .int .u16, .int .u16, .int .u16, .int .u16, .int .u16, .int .u16, .int .u16, .int .u16, .int .u16, .int .u16] (l16 (fun j => mi (g j))) := fit16' fun j _ => mi_rng (g j)
structure MsFit (x : Ms) : Prop where
  fr : x.fr ≤ 1000
  to : x.to ≤ 1000
  k : 0 ≤ x.k ∧ x.k ≤ 4294967295
  w0 : 0 ≤ x.w0 ∧ x.w0 ≤ 18446744073709551615
  w1 : 0 ≤ x.w1 ∧ x.w1 ≤ 18446744073709551615
  w2 : 0 ≤ x.w2 ∧ x.w2 ≤ 18446744073709551615
  w3 : 0 ≤ x.w3 ∧ x.w3 ≤ 18446744073709551615
def msLit (x : Ms) : List Lit := [.int .i64 (x.fr : Int), .int .i64 (x.to : Int), .int .u32 x.k, .int .u64 x.w0, .int .u64 x.w1, .int .u64 x.w2, .int .u64 x.w3]
theorem ms_unl (x : Ms) : unlitL (msc x) = some (msLit x) := rfl
theorem ms_fit {x : Ms} (h : MsFit x) : LitsFit [.int .i64, .int .i64, .int .u32, .int .u64, .int .u64, .int .u64, .int .u64] (msLit x) := by
  have h1 := h.fr; have h2 := h.to; have h3 := h.k; have h4 := h.w0; have h5 := h.w1; have h6 := h.w2; have h7 := h.w3
  refine ⟨?_⟩
  simp [LitsOk, litOk, Fits, msLit]
  omega
structure EgFit (x : Eg) : Prop where
  w : x.w ≤ 1000
  h : x.h ≤ 1000
  e : 0 ≤ x.e ∧ x.e ≤ 1000000000000
  n : -1000000000000 ≤ x.n ∧ x.n ≤ 1000000000000
def egLit (x : Eg) : List Lit := [.int .i64 (x.w : Int), .int .i64 (x.h : Int), .int .u64 x.e, .int .i64 x.n]
theorem eg_unl (x : Eg) : unlitL (egc x) = some (egLit x) := rfl
theorem eg_fit {x : Eg} (h : EgFit x) : LitsFit [.int .i64, .int .i64, .int .u64, .int .i64] (egLit x) := by
  have h1 := h.w; have h2 := h.h; have h3 := h.e; have h4 := h.n
  refine ⟨?_⟩
  simp [LitsOk, litOk, Fits, egLit]
  omega
theorem ms_ok {B Q : Int} {g : Gs} (hG : GI B Q g) (hq : BQ B Q) {b : Nat} (hb : b < 16) : ∀ x, x ∈ g.bx b → MsFit x := fun x hx => by
  obtain ⟨u, hu, _, rfl⟩ := hG.ms b hb x hx
  have h1 := hu.w; have h2 := hu.e; have h3 := mi_rng u.s; have h4 := hq.q
  refine ⟨by simp only [upMs]; omega, by simp only [upMs]; omega, ?_, by simp only [upMs]; omega, by simp only [upMs]; omega, by simp only [upMs]; omega, by simp only [upMs]; omega⟩
  simp only [upMs]
  rcases hu.k with h | h
  · omega
  · omega
theorem edH_mem {w : Nat} {x : Wt} {y : Eg} : ∀ {n}, y ∈ edH w x n → y.w = w ∧ y.h < n ∧ y.e = x.e ∧ y.n = x.net y.h ∧ x.net y.h ≠ 0
  | 0, h => by cases h
  | n + 1, h => by
    rw [edH] at h
    rcases List.mem_append.1 h with h | h
    · have := edH_mem h; exact ⟨this.1, by omega, this.2.2⟩
    · split at h
      · cases h
      · rename_i hn
        simp only [List.mem_singleton] at h
        subst h
        exact ⟨rfl, by simp only; omega, rfl, rfl, hn⟩
theorem edL_mem {w : Nat} {y : Eg} : ∀ {l : List Wt}, y ∈ edL w l → ∃ x, x ∈ l ∧ y ∈ edH w x 16
  | [], h => by cases h
  | x :: l, h => by
    rw [edL] at h
    rcases List.mem_append.1 h with h | h
    · exact ⟨x, .head _, h⟩
    · obtain ⟨z, h1, h2⟩ := edL_mem h; exact ⟨z, .tail _ h1, h2⟩
theorem edN_mem {ws : Nat → List Wt} {y : Eg} : ∀ {n}, y ∈ edN ws n → y.w < n ∧ ∃ x, x ∈ ws y.w ∧ y.h < 16 ∧ y.e = x.e ∧ y.n = x.net y.h ∧ x.net y.h ≠ 0
  | 0, h => by cases h
  | n + 1, h => by
    rw [edN] at h
    rcases List.mem_append.1 h with h | h
    · have := edN_mem h; exact ⟨by omega, this.2⟩
    · obtain ⟨x, h1, h2⟩ := edL_mem h
      obtain ⟨e1, e2⟩ := edH_mem h2
      exact ⟨by omega, x, by rw [e1]; exact h1, e2⟩
theorem eg_ok {B Q : Int} {g : Gs} (hG : GI B Q g) (hq : BQ B Q) {c : Nat} : ∀ x, x ∈ edN (wsK g.ws c) 16 → EgFit x := fun x hx => by
  obtain ⟨h1, y, hy, h2, h3, h4, _⟩ := edN_mem hx
  unfold wsK at hy
  split at hy
  · have h5 := hG.nb x.w h1 y hy
    have h6 := (hG.ok x.w h1).low y hy
    have h7 := hG.fb x.w h1
    have h8 := h5.1 x.h
    have h9 := hq.b; have h10 := hq.q
    exact ⟨by omega, by omega, by omega, by omega⟩
  · cases hy
theorem sn_ep (g : Gs) (ev bv : Nat → Value) : ((snC g ev bv).drop (0 + 0)).take 16 = arrL 16 (fun q => .int .u64 (g.ep q)) := by
  unfold snC
  rw [arrL_cut (by omega)]
  exact arrL_congr fun q hq => by unfold stV; rw [if_pos (by omega)]; congr 2; omega
theorem sn_wf (g : Gs) (ev bv : Nat → Value) : ((snC g ev bv).drop (0 + 100)).take 16 = mskA (wfN g.tb 20) := by
  unfold snC mskA
  rw [arrL_cut (by omega)]
  exact arrL_congr fun q hq => by unfold stV; rw [if_neg (by omega), if_neg (by omega), if_neg (by omega)]; congr 3; omega
theorem sn_fl {g : Gs} {ev bv : Nat → Value} {c : Nat} (hc : c < 4) : ((snC g ev bv).drop (0 + 16 + c * 17 + 0)).take 16 = arrL 16 (fun q => .int .u64 (flK g.flr c q)) := by
  unfold snC
  rw [arrL_cut (by omega)]
  exact arrL_congr fun q hq => by
    unfold stV
    have e1 : (0 + 16 + c * 17 + 0 + q - 16) % 17 = q := by omega
    have e2 : (0 + 16 + c * 17 + 0 + q - 16) / 17 = c := by omega
    rw [if_neg (by omega), if_pos (by omega), e1, e2, if_neg (by omega)]
theorem sn_ed {g : Gs} {ev bv : Nat → Value} {c : Nat} (hc : c < 4) : (snC g ev bv)[0 + 16 + c * 17 + 16]? = some (ev c) := by
  unfold snC
  rw [arrL_get (by omega)]
  unfold stV
  rw [if_neg (by omega), if_pos (by omega), if_pos (by omega)]
  congr 2; omega
theorem sn_bx {g : Gs} {ev bv : Nat → Value} {b : Nat} (hb : b < 16) : (snC g ev bv)[0 + 84 + b * 1]? = some (bv b) := st_bx hb
def snL (k : Nat) (g : Gs) (ev bv : Nat → Value) (Ee Eb : Nat → List (Nat × Obj)) : List (Nat × Obj) := (k, C (snC g ev bv) 52) :: (fam Ee 4 ++ fam Eb 16)
theorem snL_e {k : Nat} {g : Gs} {ev bv : Nat → Value} {Ee Eb : Nat → List (Nat × Obj)} {w : World} (h : Mem (snL k g ev bv Ee Eb) w) {c : Nat} (hc : c < 4) : Mem (Ee c) w := fun b o m => h b o (.tail _ (List.mem_append_left _ (mem_fam hc m)))
theorem snL_b {k : Nat} {g : Gs} {ev bv : Nat → Value} {Ee Eb : Nat → List (Nat × Obj)} {w : World} (h : Mem (snL k g ev bv Ee Eb) w) {c : Nat} (hc : c < 16) : Mem (Eb c) w := fun b o m => h b o (.tail _ (List.mem_append_right _ (mem_fam hc m)))
theorem snL_k {k : Nat} {g : Gs} {ev bv : Nat → Value} {Ee Eb : Nat → List (Nat × Obj)} {w : World} (h : Mem (snL k g ev bv Ee Eb) w) : w.heap[k]? = some (C (snC g ev bv) 52) := h _ _ (List.mem_cons_self ..)
theorem row_getG {α : Type} {f : α → List Value} {s e : Nat} (hs : ∀ a, (f a).length = s) {l : List α} {v : Value} {E : List (Nat × Obj)} (h : Row v l.length (fl f l) s e E) {w : World} (hm : Mem E w) {i : Nat} {x : α} (hx : l[i]? = some x) : ∃ b c junk, v = .slice (some ⟨b, 0, none⟩) l.length c ∧ w.heap[b]? = some (C (fl f l ++ junk) e) ∧ ((fl f l ++ junk).drop (0 + i * s)).take s = f x := by
  have h0 : 0 < l.length := by have := (List.getElem?_eq_some_iff.1 hx).1; omega
  obtain ⟨b, c, junk, rfl, _, _, rfl⟩ := row_blk3 h h0
  exact ⟨b, c, junk, rfl, hm _ _ (List.mem_singleton.2 rfl), fl_at hs hx junk⟩


set_option maxHeartbeats 2000000 in
theorem eqM_spec (l : List Ms) (hl9 : l.length ≤ 100000000000) (hfit : ∀ x, x ∈ l → MsFit x) (p1 p2 : Option Addr) (c1 c2 : Nat) (E1 E2 : List (Nat × Obj)) (hR1 : Row (.slice p1 l.length c1) l.length (fl msc l) 7 77 E1) (hR2 : Row (.slice p2 l.length c2) l.length (fl msc l) 7 77 E2) : SpK Tryz.prog 37 #[.slice p1 l.length c1, .slice p2 l.length c2] (fun w => Mem E1 w ∧ Mem E2 w) [] (fun v F' => v = .bool true ∧ F' = []) := by
  refine f_enter (args := [.slice p1 l.length c1, .slice p2 l.length c2]) Tryz.func37 rfl Tryz.ntmps37 rfl ?_
  intro w0 w a hpre hl hh
  simp only [slotsFrom, Nat.reduceAdd] at hl
  refine c_seq ?_
  refine c_region ?_
  refine wl (wl_val hl rfl trivial (r_assign hl rfl) ?_)
  clear hl a; intro a hl
  refine w_nil ?_
  have hl2 := hl.add (t := 0) (hl.add (t := 1) (hl.nil) rfl) rfl; clear hl; have hl := hl2; clear hl2
  refine then_normal ?_
  refine c_seq ?_
  refine c_seq ?_
  refine c_region ?_
  refine wl (wl_val hl rfl trivial (r_move hl rfl) ?_)
  clear hl a; intro a hl
  refine wl (wl_val hl rfl trivial (r_lenS hl rfl slc48) ?_)
  clear hl a; intro a hl
  refine wl (wl_val hl rfl trivial (r_move hl rfl) ?_)
  clear hl a; intro a hl
  refine wl (wl_val hl rfl trivial (r_lenS hl rfl slc48) ?_)
  clear hl a; intro a hl
  refine wl (wl_val hl rfl trivial (r_neq hl rfl rfl) ?_)
  clear hl a; intro a hl
  refine w_nil ?_
  have hl2 := hl.add (t := 0) (hl.add (t := 1) (hl.add (t := 10) (hl.nil) rfl) rfl) rfl; clear hl; have hl := hl2; clear hl2
  refine then_normal ?_
  refine c_cond hl rfl ?_ ?_
  · intro hc0
    try simp only [decide_eq_true_eq, decide_eq_false_iff_not, Bool.not_eq_true', Bool.not_eq_false', Bool.not_eq_true, Bool.not_eq_false, Bool.and_eq_true, Bool.or_eq_true, Bool.and_eq_false_iff, Bool.or_eq_false_iff, Bool.not_not, ne_eq, Int.not_lt, Int.not_le, Decidable.not_not, beq_iff_eq, bne_iff_ne] at hc0
    exfalso; first | contradiction | omega
  · intro hc0
    try simp only [decide_eq_true_eq, decide_eq_false_iff_not, Bool.not_eq_true', Bool.not_eq_false', Bool.not_eq_true, Bool.not_eq_false, Bool.and_eq_true, Bool.or_eq_true, Bool.and_eq_false_iff, Bool.or_eq_false_iff, Bool.not_not, ne_eq, Int.not_lt, Int.not_le, Decidable.not_not, beq_iff_eq, bne_iff_ne] at hc0
    refine wp_skip ?_
    refine then_normal ?_
    refine c_seq ?_
    refine c_seq ?_
    refine c_region ?_
    refine wl (wl_val hl rfl trivial (r_move hl rfl) ?_)
    clear hl a; intro a hl
    refine wl (wl_val hl rfl trivial (r_lenS hl rfl slc48) ?_)
    clear hl a; intro a hl
    refine wl (wl_val hl rfl trivial (r_move hl rfl) ?_)
    clear hl a; intro a hl
    refine w_nil ?_
    have hl2 := hl.add (t := 0) (hl.add (t := 1) (hl.add (t := 12) (hl.add (t := 13) (hl.nil) rfl) rfl) rfl) rfl; clear hl; have hl := hl2; clear hl2
    refine then_normal ?_
    refine wp_block ?_
    obtain ⟨KS0, hKS0, hk⟩ := (hl.add (t := 0) (hl.add (t := 1) (hl.add (t := 12) (hl.nil) rfl) rfl) rfl).name
    obtain ⟨HS0, hHS0, hh2⟩ := hh.name (keeps_nil)
    refine c_loop (α := Nat) (fun i => l.length - i) (fun i a w => (i ≤ l.length) ∧ Sl 26 ([(13, .int .i64 (i : Int))] ++ KS0) a ∧ Has _ w0 ([] ++ HS0) w) 0 ⟨(by omega), hl.addE (t := 13) (hk) rfl (by first | rfl), hh2⟩ ?_
    clear hk hh2 hl hh a w
    intro i a w hI
    obtain ⟨hi, hl, hh⟩ := hI
    subst hKS0; subst hHS0
    simp only [List.cons_append, List.nil_append, List.append_nil] at hl hh
    refine c_seq ?_
    refine c_region ?_
    refine wl (wl_val hl rfl trivial (r_lss hl rfl rfl) ?_)
    clear hl a; intro a hl
    refine w_nil ?_
    have hl2 := hl.add (t := 0) (hl.add (t := 1) (hl.add (t := 12) (hl.add (t := 13) (hl.add (t := 14) (hl.nil) rfl) rfl) rfl) rfl) rfl; clear hl; have hl := hl2; clear hl2
    refine then_normal ?_
    refine c_seq ?_
    refine c_cond hl rfl ?_ ?_
    · intro hc1
      try simp only [decide_eq_true_eq, decide_eq_false_iff_not, Bool.not_eq_true', Bool.not_eq_false', Bool.not_eq_true, Bool.not_eq_false, Bool.and_eq_true, Bool.or_eq_true, Bool.and_eq_false_iff, Bool.or_eq_false_iff, Bool.not_not, ne_eq, Int.not_lt, Int.not_le, Decidable.not_not, beq_iff_eq, bne_iff_ne] at hc1
      obtain ⟨x, hx⟩ : ∃ x, l[i]? = some x := ⟨_, List.getElem?_eq_getElem (by omega)⟩
      obtain ⟨b1, d1, j1, hv1, hm1, hr1⟩ := row_getG msc_len hR1 hpre.1 hx
      obtain ⟨b2, d2, j2, hv2, hm2, hr2⟩ := row_getG msc_len hR2 hpre.2 hx
      injection hv1 with hv1 _ _; injection hv2 with hv2 _ _
      subst hv1; subst hv2
      have hxf := hfit x (List.mem_of_getElem? hx)
      refine wp_skip ?_
      refine then_normal ?_
      refine c_seq ?_
      refine wp_block ?_
      refine c_seq ?_
      refine c_region ?_
      refine wl (wl_val hl rfl trivial (r_move hl rfl) ?_)
      clear hl a; intro a hl
      refine wl (wl_val hl rfl trivial (r_assign hl rfl) ?_)
      clear hl a; intro a hl
      refine w_nil ?_
      have hl2 := hl.add (t := 0) (hl.add (t := 1) (hl.add (t := 5) (hl.add (t := 12) (hl.add (t := 13) (hl.nil) rfl) rfl) rfl) rfl) rfl; clear hl; have hl := hl2; clear hl2
      refine then_normal ?_
      refine c_seq ?_
      refine c_draw [(b1, C (fl msc l ++ j1) 77), (b2, C (fl msc l ++ j2) 77)] [8] mixed hh ?_
      clear hh w; intro w hh
      have hM : Mem [(b1, C (fl msc l ++ j1) 77), (b2, C (fl msc l ++ j2) 77)] w := (by (repeat (first | exact Mem.nil | refine Mem.consR hh (by assumption) (by simp) ?_ | refine Mem.cons hh.mem (by (repeat (first | exact find_head | apply find_tail)); done) ?_ | fail)); done)
      refine d_take (i := 0) hl rfl (by kernel_rfl) (by kernel_rfl) (by kernel_rfl) (by kernel_rfl) (by kernel_rfl) rfl trivial (fun _ _ _ h => h) hM (fun w hC => r_move hl rfl) rfl ?_
      clear hl a; intro a hl
      refine d_take (i := 1) hl rfl (by kernel_rfl) (by kernel_rfl) (by kernel_rfl) (by kernel_rfl) (by kernel_rfl) rfl trivial (fun _ _ _ h => h) hM (fun w hC => r_move hl rfl) rfl ?_
      clear hl a; intro a hl
      refine d_take (i := 2) hl rfl (by kernel_rfl) (by kernel_rfl) (by kernel_rfl) (by kernel_rfl) (by kernel_rfl) rfl trivial (fun _ _ _ h => h) hM (fun w hC => r_indexS hl rfl rfl slc48 (by omega) (by omega) (by first | (simp only [Int.reduceToNat]; rfl) | exact toNat_add1 _ | exact toNat_add2 _ _ | exact toNat_emod _ _ | exact Int.toNat_natCast _ | rfl)) rfl ?_
      clear hl a; intro a hl
      refine d_take (i := 3) hl rfl (by kernel_rfl) (by kernel_rfl) (by kernel_rfl) (by kernel_rfl) (by kernel_rfl) rfl trivial (fun _ _ _ h => h) hM (fun w hC => r_loadCA hl rfl agg77 hC (by repeat (first | exact find_head | apply find_tail)) (by first | exact hr1 | exact hr2) (by exact msc_len _)) rfl ?_
      clear hl a; intro a hl
      refine d_take (i := 4) hl rfl (by kernel_rfl) (by kernel_rfl) (by kernel_rfl) (by kernel_rfl) (by kernel_rfl) rfl trivial (fun _ _ _ h => h) hM (fun w hC => r_move hl rfl) rfl ?_
      clear hl a; intro a hl
      refine d_take (i := 5) hl rfl (by kernel_rfl) (by kernel_rfl) (by kernel_rfl) (by kernel_rfl) (by kernel_rfl) rfl trivial (fun _ _ _ h => h) hM (fun w hC => r_move hl rfl) rfl ?_
      clear hl a; intro a hl
      refine d_take (i := 6) hl rfl (by kernel_rfl) (by kernel_rfl) (by kernel_rfl) (by kernel_rfl) (by kernel_rfl) rfl trivial (fun _ _ _ h => h) hM (fun w hC => r_indexS hl rfl rfl slc48 (by omega) (by omega) (by first | (simp only [Int.reduceToNat]; rfl) | exact toNat_add1 _ | exact toNat_add2 _ _ | exact toNat_emod _ _ | exact Int.toNat_natCast _ | rfl)) rfl ?_
      clear hl a; intro a hl
      refine d_take (i := 7) hl rfl (by kernel_rfl) (by kernel_rfl) (by kernel_rfl) (by kernel_rfl) (by kernel_rfl) rfl trivial (fun _ _ _ h => h) hM (fun w hC => r_loadCA hl rfl agg77 hC (by repeat (first | exact find_head | apply find_tail)) (by first | exact hr1 | exact hr2) (by exact msc_len _)) rfl ?_
      clear hl a; intro a hl
      refine d_takeL (i := 8) hl rfl (by kernel_rfl) (by kernel_rfl) (by kernel_rfl) (by kernel_rfl) (by kernel_rfl) rfl trivial (fun _ _ _ h => h) (fun w => r_neqSame hl rfl rfl eqf77 shp77 (ms_unl _) (ms_fit hxf)) rfl ?_
      clear hl a; intro a hl
      refine d_done (by kernel_rfl) ?_
      try clear hM
      have hl2 := hl.add (t := 0) (hl.add (t := 1) (hl.add (t := 12) (hl.add (t := 13) (hl.add (t := 24) (hl.nil) rfl) rfl) rfl) rfl) rfl; clear hl; have hl := hl2; clear hl2
      refine then_normal ?_
      refine c_condF hl rfl ?_
      refine wp_skip ?_
      refine blk_normal ?_
      refine then_normal ?_
      refine c_region ?_
      first | refine wl (wl_val hl rfl trivial (r_add hl rfl rfl (by simp only [Fits]; omega)) ?_) | refine wl (wl_val hl rfl trivial (r_addW hl rfl rfl) ?_)
      clear hl a; intro a hl
      refine wl (wl_val hl rfl trivial (r_move hl rfl) ?_)
      clear hl a; intro a hl
      refine w_nil ?_
      have hl2 := hl.add (t := 0) (hl.add (t := 1) (hl.add (t := 12) (hl.add (t := 13) (hl.nil) rfl) rfl) rfl) rfl; clear hl; have hl := hl2; clear hl2
      refine then_normal ?_
      refine ⟨(i + 1), (by omega), (by omega), hl.addE (t := 13) (hl.addE (t := 0) (hl.addE (t := 1) (hl.addE (t := 12) (hl.nil) rfl (by first | rfl | (congr 1; omega))) rfl (by first | rfl | (congr 1; omega))) rfl (by first | rfl | (congr 1; omega))) rfl (by first | rfl | (congr 1; omega)), hh.keep (by repeat (first | exact keeps_nil | apply keeps_cons (by repeat (first | exact find_head | apply find_tail)) (by first  | rfl) | exact keeps_self | apply keeps_mv))⟩
    · intro hc1
      try simp only [decide_eq_true_eq, decide_eq_false_iff_not, Bool.not_eq_true', Bool.not_eq_false', Bool.not_eq_true, Bool.not_eq_false, Bool.and_eq_true, Bool.or_eq_true, Bool.and_eq_false_iff, Bool.or_eq_false_iff, Bool.not_not, ne_eq, Int.not_lt, Int.not_le, Decidable.not_not, beq_iff_eq, bne_iff_ne] at hc1
      refine wp_exit ?_
      refine then_exit ?_
      refine then_exit ?_
      refine blk_exit ?_
      refine then_normal ?_
      refine c_seq ?_
      refine c_region ?_
      refine wl (wl_val hl rfl trivial (r_assign hl rfl) ?_)
      clear hl a; intro a hl
      refine w_nil ?_
      have hl2 := hl.add (t := 4) (hl.nil) rfl; clear hl; have hl := hl2; clear hl2
      refine then_normal ?_
      refine wp_ret ?_
      refine f_ret1 (F' := []) hl hh rfl rfl (by repeat (first | exact keeps_nil | apply keeps_cons (by repeat (first | exact find_head | apply find_tail)) (by first  | rfl) | exact keeps_self | apply keeps_mv)) ?_
      exact ⟨rfl, rfl⟩

set_option maxHeartbeats 2000000 in
theorem eqE_spec (l : List Eg) (hl9 : l.length ≤ 100000000000) (hfit : ∀ x, x ∈ l → EgFit x) (p1 p2 : Option Addr) (c1 c2 : Nat) (E1 E2 : List (Nat × Obj)) (hR1 : Row (.slice p1 l.length c1) l.length (fl egc l) 4 102 E1) (hR2 : Row (.slice p2 l.length c2) l.length (fl egc l) 4 102 E2) : SpK Tryz.prog 63 #[.slice p1 l.length c1, .slice p2 l.length c2] (fun w => Mem E1 w ∧ Mem E2 w) [] (fun v F' => v = .bool true ∧ F' = []) := by
  refine f_enter (args := [.slice p1 l.length c1, .slice p2 l.length c2]) Tryz.func63 rfl Tryz.ntmps63 rfl ?_
  intro w0 w a hpre hl hh
  simp only [slotsFrom, Nat.reduceAdd] at hl
  refine c_seq ?_
  refine c_region ?_
  refine wl (wl_val hl rfl trivial (r_assign hl rfl) ?_)
  clear hl a; intro a hl
  refine w_nil ?_
  have hl2 := hl.add (t := 0) (hl.add (t := 1) (hl.nil) rfl) rfl; clear hl; have hl := hl2; clear hl2
  refine then_normal ?_
  refine c_seq ?_
  refine c_seq ?_
  refine c_region ?_
  refine wl (wl_val hl rfl trivial (r_move hl rfl) ?_)
  clear hl a; intro a hl
  refine wl (wl_val hl rfl trivial (r_lenS hl rfl slc44) ?_)
  clear hl a; intro a hl
  refine wl (wl_val hl rfl trivial (r_move hl rfl) ?_)
  clear hl a; intro a hl
  refine wl (wl_val hl rfl trivial (r_lenS hl rfl slc44) ?_)
  clear hl a; intro a hl
  refine wl (wl_val hl rfl trivial (r_neq hl rfl rfl) ?_)
  clear hl a; intro a hl
  refine w_nil ?_
  have hl2 := hl.add (t := 0) (hl.add (t := 1) (hl.add (t := 10) (hl.nil) rfl) rfl) rfl; clear hl; have hl := hl2; clear hl2
  refine then_normal ?_
  refine c_cond hl rfl ?_ ?_
  · intro hc0
    try simp only [decide_eq_true_eq, decide_eq_false_iff_not, Bool.not_eq_true', Bool.not_eq_false', Bool.not_eq_true, Bool.not_eq_false, Bool.and_eq_true, Bool.or_eq_true, Bool.and_eq_false_iff, Bool.or_eq_false_iff, Bool.not_not, ne_eq, Int.not_lt, Int.not_le, Decidable.not_not, beq_iff_eq, bne_iff_ne] at hc0
    exfalso; first | contradiction | omega
  · intro hc0
    try simp only [decide_eq_true_eq, decide_eq_false_iff_not, Bool.not_eq_true', Bool.not_eq_false', Bool.not_eq_true, Bool.not_eq_false, Bool.and_eq_true, Bool.or_eq_true, Bool.and_eq_false_iff, Bool.or_eq_false_iff, Bool.not_not, ne_eq, Int.not_lt, Int.not_le, Decidable.not_not, beq_iff_eq, bne_iff_ne] at hc0
    refine wp_skip ?_
    refine then_normal ?_
    refine c_seq ?_
    refine c_seq ?_
    refine c_region ?_
    refine wl (wl_val hl rfl trivial (r_move hl rfl) ?_)
    clear hl a; intro a hl
    refine wl (wl_val hl rfl trivial (r_lenS hl rfl slc44) ?_)
    clear hl a; intro a hl
    refine wl (wl_val hl rfl trivial (r_move hl rfl) ?_)
    clear hl a; intro a hl
    refine w_nil ?_
    have hl2 := hl.add (t := 0) (hl.add (t := 1) (hl.add (t := 12) (hl.add (t := 13) (hl.nil) rfl) rfl) rfl) rfl; clear hl; have hl := hl2; clear hl2
    refine then_normal ?_
    refine wp_block ?_
    obtain ⟨KS0, hKS0, hk⟩ := (hl.add (t := 0) (hl.add (t := 1) (hl.add (t := 12) (hl.nil) rfl) rfl) rfl).name
    obtain ⟨HS0, hHS0, hh2⟩ := hh.name (keeps_nil)
    refine c_loop (α := Nat) (fun i => l.length - i) (fun i a w => (i ≤ l.length) ∧ Sl 26 ([(13, .int .i64 (i : Int))] ++ KS0) a ∧ Has _ w0 ([] ++ HS0) w) 0 ⟨(by omega), hl.addE (t := 13) (hk) rfl (by first | rfl), hh2⟩ ?_
    clear hk hh2 hl hh a w
    intro i a w hI
    obtain ⟨hi, hl, hh⟩ := hI
    subst hKS0; subst hHS0
    simp only [List.cons_append, List.nil_append, List.append_nil] at hl hh
    refine c_seq ?_
    refine c_region ?_
    refine wl (wl_val hl rfl trivial (r_lss hl rfl rfl) ?_)
    clear hl a; intro a hl
    refine w_nil ?_
    have hl2 := hl.add (t := 0) (hl.add (t := 1) (hl.add (t := 12) (hl.add (t := 13) (hl.add (t := 14) (hl.nil) rfl) rfl) rfl) rfl) rfl; clear hl; have hl := hl2; clear hl2
    refine then_normal ?_
    refine c_seq ?_
    refine c_cond hl rfl ?_ ?_
    · intro hc1
      try simp only [decide_eq_true_eq, decide_eq_false_iff_not, Bool.not_eq_true', Bool.not_eq_false', Bool.not_eq_true, Bool.not_eq_false, Bool.and_eq_true, Bool.or_eq_true, Bool.and_eq_false_iff, Bool.or_eq_false_iff, Bool.not_not, ne_eq, Int.not_lt, Int.not_le, Decidable.not_not, beq_iff_eq, bne_iff_ne] at hc1
      obtain ⟨x, hx⟩ : ∃ x, l[i]? = some x := ⟨_, List.getElem?_eq_getElem (by omega)⟩
      obtain ⟨b1, d1, j1, hv1, hm1, hr1⟩ := row_getG egc_len hR1 hpre.1 hx
      obtain ⟨b2, d2, j2, hv2, hm2, hr2⟩ := row_getG egc_len hR2 hpre.2 hx
      injection hv1 with hv1 _ _; injection hv2 with hv2 _ _
      subst hv1; subst hv2
      have hxf := hfit x (List.mem_of_getElem? hx)
      refine wp_skip ?_
      refine then_normal ?_
      refine c_seq ?_
      refine wp_block ?_
      refine c_seq ?_
      refine c_region ?_
      refine wl (wl_val hl rfl trivial (r_move hl rfl) ?_)
      clear hl a; intro a hl
      refine wl (wl_val hl rfl trivial (r_assign hl rfl) ?_)
      clear hl a; intro a hl
      refine w_nil ?_
      have hl2 := hl.add (t := 0) (hl.add (t := 1) (hl.add (t := 5) (hl.add (t := 12) (hl.add (t := 13) (hl.nil) rfl) rfl) rfl) rfl) rfl; clear hl; have hl := hl2; clear hl2
      refine then_normal ?_
      refine c_seq ?_
      refine c_draw [(b1, C (fl egc l ++ j1) 102), (b2, C (fl egc l ++ j2) 102)] [8] mixed hh ?_
      clear hh w; intro w hh
      have hM : Mem [(b1, C (fl egc l ++ j1) 102), (b2, C (fl egc l ++ j2) 102)] w := (by (repeat (first | exact Mem.nil | refine Mem.consR hh (by assumption) (by simp) ?_ | refine Mem.cons hh.mem (by (repeat (first | exact find_head | apply find_tail)); done) ?_ | fail)); done)
      refine d_take (i := 0) hl rfl (by kernel_rfl) (by kernel_rfl) (by kernel_rfl) (by kernel_rfl) (by kernel_rfl) rfl trivial (fun _ _ _ h => h) hM (fun w hC => r_move hl rfl) rfl ?_
      clear hl a; intro a hl
      refine d_take (i := 1) hl rfl (by kernel_rfl) (by kernel_rfl) (by kernel_rfl) (by kernel_rfl) (by kernel_rfl) rfl trivial (fun _ _ _ h => h) hM (fun w hC => r_move hl rfl) rfl ?_
      clear hl a; intro a hl
      refine d_take (i := 2) hl rfl (by kernel_rfl) (by kernel_rfl) (by kernel_rfl) (by kernel_rfl) (by kernel_rfl) rfl trivial (fun _ _ _ h => h) hM (fun w hC => r_indexS hl rfl rfl slc44 (by omega) (by omega) (by first | (simp only [Int.reduceToNat]; rfl) | exact toNat_add1 _ | exact toNat_add2 _ _ | exact toNat_emod _ _ | exact Int.toNat_natCast _ | rfl)) rfl ?_
      clear hl a; intro a hl
      refine d_take (i := 3) hl rfl (by kernel_rfl) (by kernel_rfl) (by kernel_rfl) (by kernel_rfl) (by kernel_rfl) rfl trivial (fun _ _ _ h => h) hM (fun w hC => r_loadCA hl rfl agg102 hC (by repeat (first | exact find_head | apply find_tail)) (by first | exact hr1 | exact hr2) (by exact egc_len _)) rfl ?_
      clear hl a; intro a hl
      refine d_take (i := 4) hl rfl (by kernel_rfl) (by kernel_rfl) (by kernel_rfl) (by kernel_rfl) (by kernel_rfl) rfl trivial (fun _ _ _ h => h) hM (fun w hC => r_move hl rfl) rfl ?_
      clear hl a; intro a hl
      refine d_take (i := 5) hl rfl (by kernel_rfl) (by kernel_rfl) (by kernel_rfl) (by kernel_rfl) (by kernel_rfl) rfl trivial (fun _ _ _ h => h) hM (fun w hC => r_move hl rfl) rfl ?_
      clear hl a; intro a hl
      refine d_take (i := 6) hl rfl (by kernel_rfl) (by kernel_rfl) (by kernel_rfl) (by kernel_rfl) (by kernel_rfl) rfl trivial (fun _ _ _ h => h) hM (fun w hC => r_indexS hl rfl rfl slc44 (by omega) (by omega) (by first | (simp only [Int.reduceToNat]; rfl) | exact toNat_add1 _ | exact toNat_add2 _ _ | exact toNat_emod _ _ | exact Int.toNat_natCast _ | rfl)) rfl ?_
      clear hl a; intro a hl
      refine d_take (i := 7) hl rfl (by kernel_rfl) (by kernel_rfl) (by kernel_rfl) (by kernel_rfl) (by kernel_rfl) rfl trivial (fun _ _ _ h => h) hM (fun w hC => r_loadCA hl rfl agg102 hC (by repeat (first | exact find_head | apply find_tail)) (by first | exact hr1 | exact hr2) (by exact egc_len _)) rfl ?_
      clear hl a; intro a hl
      refine d_takeL (i := 8) hl rfl (by kernel_rfl) (by kernel_rfl) (by kernel_rfl) (by kernel_rfl) (by kernel_rfl) rfl trivial (fun _ _ _ h => h) (fun w => r_neqSame hl rfl rfl eqf102 shp102 (eg_unl _) (eg_fit hxf)) rfl ?_
      clear hl a; intro a hl
      refine d_done (by kernel_rfl) ?_
      try clear hM
      have hl2 := hl.add (t := 0) (hl.add (t := 1) (hl.add (t := 12) (hl.add (t := 13) (hl.add (t := 24) (hl.nil) rfl) rfl) rfl) rfl) rfl; clear hl; have hl := hl2; clear hl2
      refine then_normal ?_
      refine c_condF hl rfl ?_
      refine wp_skip ?_
      refine blk_normal ?_
      refine then_normal ?_
      refine c_region ?_
      first | refine wl (wl_val hl rfl trivial (r_add hl rfl rfl (by simp only [Fits]; omega)) ?_) | refine wl (wl_val hl rfl trivial (r_addW hl rfl rfl) ?_)
      clear hl a; intro a hl
      refine wl (wl_val hl rfl trivial (r_move hl rfl) ?_)
      clear hl a; intro a hl
      refine w_nil ?_
      have hl2 := hl.add (t := 0) (hl.add (t := 1) (hl.add (t := 12) (hl.add (t := 13) (hl.nil) rfl) rfl) rfl) rfl; clear hl; have hl := hl2; clear hl2
      refine then_normal ?_
      refine ⟨(i + 1), (by omega), (by omega), hl.addE (t := 13) (hl.addE (t := 0) (hl.addE (t := 1) (hl.addE (t := 12) (hl.nil) rfl (by first | rfl | (congr 1; omega))) rfl (by first | rfl | (congr 1; omega))) rfl (by first | rfl | (congr 1; omega))) rfl (by first | rfl | (congr 1; omega)), hh.keep (by repeat (first | exact keeps_nil | apply keeps_cons (by repeat (first | exact find_head | apply find_tail)) (by first  | rfl) | exact keeps_self | apply keeps_mv))⟩
    · intro hc1
      try simp only [decide_eq_true_eq, decide_eq_false_iff_not, Bool.not_eq_true', Bool.not_eq_false', Bool.not_eq_true, Bool.not_eq_false, Bool.and_eq_true, Bool.or_eq_true, Bool.and_eq_false_iff, Bool.or_eq_false_iff, Bool.not_not, ne_eq, Int.not_lt, Int.not_le, Decidable.not_not, beq_iff_eq, bne_iff_ne] at hc1
      refine wp_exit ?_
      refine then_exit ?_
      refine then_exit ?_
      refine blk_exit ?_
      refine then_normal ?_
      refine c_seq ?_
      refine c_region ?_
      refine wl (wl_val hl rfl trivial (r_assign hl rfl) ?_)
      clear hl a; intro a hl
      refine w_nil ?_
      have hl2 := hl.add (t := 4) (hl.nil) rfl; clear hl; have hl := hl2; clear hl2
      refine then_normal ?_
      refine wp_ret ?_
      refine f_ret1 (F' := []) hl hh rfl rfl (by repeat (first | exact keeps_nil | apply keeps_cons (by repeat (first | exact find_head | apply find_tail)) (by first  | rfl) | exact keeps_self | apply keeps_mv)) ?_
      exact ⟨rfl, rfl⟩

theorem flK_rng {B Q : Int} {g : Gs} (hG : GI B Q g) (hq : BQ B Q) (c : Nat) : ∀ j, j < 16 → 0 ≤ flK g.flr c j ∧ flK g.flr c j ≤ 1000000000000 := fun j hj => by
  have := hG.fb j hj; have := hq.q
  unfold flK; split <;> omega
theorem edK_len {B Q : Int} {g : Gs} (hG : GI B Q g) (hq : BQ B Q) (c : Nat) : (edN (wsK g.ws c) 16).length ≤ 100000000000 := by
  have := edN_len (wsK_len hG hq c) 16 (Nat.le_refl _); omega
theorem ep_rng {B Q : Int} {g : Gs} (hG : GI B Q g) (hq : BQ B Q) : ∀ j, j < 16 → 0 ≤ g.ep j ∧ g.ep j ≤ 1000000000000 := fun j hj => by
  have := hG.ep.bd j hj; have := hq.q; omega

set_option maxHeartbeats 2000000 in
theorem eqS_spec {g : Gs} {B Q : Int} (hq : BQ B Q) (hG : GI B Q g) (k1 k2 : Nat) (ev1 bv1 ev2 bv2 : Nat → Value) (Ee1 Eb1 Ee2 Eb2 : Nat → List (Nat × Obj)) (hR1 : SnR g ev1 bv1 Ee1 Eb1) (hR2 : SnR g ev2 bv2 Ee2 Eb2) (cc : Nat) (hc : cc < 4) : SpK Tryz.prog 36 #[.pointer (some ⟨k1, 0 + 16 + cc * 17, none⟩), .pointer (some ⟨k2, 0 + 16 + cc * 17, none⟩)] (fun w => Mem (snL k1 g ev1 bv1 Ee1 Eb1) w ∧ Mem (snL k2 g ev2 bv2 Ee2 Eb2) w) [] (fun v F' => v = .bool true ∧ F' = []) := by
  refine f_enter (args := [.pointer (some ⟨k1, 0 + 16 + cc * 17, none⟩), .pointer (some ⟨k2, 0 + 16 + cc * 17, none⟩)]) Tryz.func36 rfl Tryz.ntmps36 rfl ?_
  intro w0 w a hpre hl hh
  have hb1 := hq.b; have hq1 := hq.q
  have hm1 := snL_k hpre.1
  have hm2 := snL_k hpre.2
  obtain ⟨p1, c1, hp1⟩ := row_val (hR1.e cc hc)
  obtain ⟨p2, c2, hp2⟩ := row_val (hR2.e cc hc)
  simp only [slotsFrom, Nat.reduceAdd] at hl
  refine c_seq ?_
  refine c_region ?_
  refine wl (wl_val hl rfl trivial (r_assign hl rfl) ?_)
  clear hl a; intro a hl
  refine w_nil ?_
  have hl2 := hl.add (t := 0) (hl.add (t := 1) (hl.nil) rfl) rfl; clear hl; have hl := hl2; clear hl2
  refine then_normal ?_
  refine c_seq ?_
  refine c_draw [(k1, C (snC g ev1 bv1) 52), (k2, C (snC g ev2 bv2) 52)] [18, 19, 20] mixed hh ?_
  clear hh w; intro w hh
  have hM : Mem [(k1, C (snC g ev1 bv1) 52), (k2, C (snC g ev2 bv2) 52)] w := (by (repeat (first | exact Mem.nil | refine Mem.consR hh (by assumption) (by simp) ?_ | refine Mem.cons hh.mem (by (repeat (first | exact find_head | apply find_tail)); done) ?_ | fail)); done)
  refine d_take (i := 0) hl rfl (by kernel_rfl) (by kernel_rfl) (by kernel_rfl) (by kernel_rfl) (by kernel_rfl) rfl trivial (fun _ _ _ h => h) hM (fun w hC => r_move hl rfl) rfl ?_
  clear hl a; intro a hl
  refine d_take (i := 1) hl rfl (by kernel_rfl) (by kernel_rfl) (by kernel_rfl) (by kernel_rfl) (by kernel_rfl) rfl trivial (fun _ _ _ h => h) hM (fun w hC => r_nilCheck hl rfl) rfl ?_
  clear hl a; intro a hl
  refine d_take (i := 2) hl rfl (by kernel_rfl) (by kernel_rfl) (by kernel_rfl) (by kernel_rfl) (by kernel_rfl) rfl trivial (fun _ _ _ h => h) hM (fun w hC => r_field hl rfl fld46_0) rfl ?_
  clear hl a; intro a hl
  refine d_take (i := 3) hl rfl (by kernel_rfl) (by kernel_rfl) (by kernel_rfl) (by kernel_rfl) (by kernel_rfl) rfl trivial (fun _ _ _ h => h) hM (fun w hC => r_loadCA hl rfl agg43 hC (by repeat (first | exact find_head | apply find_tail)) (by exact sn_fl hc) (by exact arrL_length _ _)) rfl ?_
  clear hl a; intro a hl
  refine d_take (i := 4) hl rfl (by kernel_rfl) (by kernel_rfl) (by kernel_rfl) (by kernel_rfl) (by kernel_rfl) rfl trivial (fun _ _ _ h => h) hM (fun w hC => r_move hl rfl) rfl ?_
  clear hl a; intro a hl
  refine d_take (i := 5) hl rfl (by kernel_rfl) (by kernel_rfl) (by kernel_rfl) (by kernel_rfl) (by kernel_rfl) rfl trivial (fun _ _ _ h => h) hM (fun w hC => r_nilCheck hl rfl) rfl ?_
  clear hl a; intro a hl
  refine d_take (i := 6) hl rfl (by kernel_rfl) (by kernel_rfl) (by kernel_rfl) (by kernel_rfl) (by kernel_rfl) rfl trivial (fun _ _ _ h => h) hM (fun w hC => r_field hl rfl fld46_0) rfl ?_
  clear hl a; intro a hl
  refine d_take (i := 7) hl rfl (by kernel_rfl) (by kernel_rfl) (by kernel_rfl) (by kernel_rfl) (by kernel_rfl) rfl trivial (fun _ _ _ h => h) hM (fun w hC => r_loadCA hl rfl agg43 hC (by repeat (first | exact find_head | apply find_tail)) (by exact sn_fl hc) (by exact arrL_length _ _)) rfl ?_
  clear hl a; intro a hl
  refine d_take (i := 8) hl rfl (by kernel_rfl) (by kernel_rfl) (by kernel_rfl) (by kernel_rfl) (by kernel_rfl) rfl trivial (fun _ _ _ h => h) hM (fun w hC => r_eqlSame hl rfl rfl eqf43 shp43 (unl64 _) (fit64 (flK_rng hG hq cc))) rfl ?_
  clear hl a; intro a hl
  refine d_take (i := 9) hl rfl (by kernel_rfl) (by kernel_rfl) (by kernel_rfl) (by kernel_rfl) (by kernel_rfl) rfl trivial (fun _ _ _ h => h) hM (fun w hC => r_move hl rfl) rfl ?_
  clear hl a; intro a hl
  refine d_take (i := 10) hl rfl (by kernel_rfl) (by kernel_rfl) (by kernel_rfl) (by kernel_rfl) (by kernel_rfl) rfl ⟨_, _, rfl, rfl, rfl⟩ (fun _ _ _ h => h) hM (fun w hC => r_move hl rfl) rfl ?_
  clear hl a; intro a hl
  refine d_take (i := 11) hl rfl (by kernel_rfl) (by kernel_rfl) (by kernel_rfl) (by kernel_rfl) (by kernel_rfl) rfl ⟨_, _, rfl, rfl, rfl⟩ (fun _ _ _ h => h) hM (fun w hC => r_nilCheck hl rfl) rfl ?_
  clear hl a; intro a hl
  refine d_take (i := 12) hl rfl (by kernel_rfl) (by kernel_rfl) (by kernel_rfl) (by kernel_rfl) (by kernel_rfl) rfl ⟨_, _, rfl, rfl, rfl⟩ (fun _ _ _ h => h) hM (fun w hC => r_field hl rfl fld46_1) rfl ?_
  clear hl a; intro a hl
  refine d_take (i := 13) hl rfl (by kernel_rfl) (by kernel_rfl) (by kernel_rfl) (by kernel_rfl) (by kernel_rfl) rfl ⟨_, _, rfl, rfl, rfl⟩ (fun _ _ _ h => h) hM (fun w hC => r_loadC hl rfl one44 hC (by repeat (first | exact find_head | apply find_tail)) (by first | exact sn_ed hc | rfl)) rfl ?_
  clear hl a; intro a hl
  rw [hp1] at hl
  refine d_take (i := 14) hl rfl (by kernel_rfl) (by kernel_rfl) (by kernel_rfl) (by kernel_rfl) (by kernel_rfl) rfl ⟨_, _, rfl, rfl, rfl⟩ (fun _ _ _ h => h) hM (fun w hC => r_move hl rfl) rfl ?_
  clear hl a; intro a hl
  refine d_take (i := 15) hl rfl (by kernel_rfl) (by kernel_rfl) (by kernel_rfl) (by kernel_rfl) (by kernel_rfl) rfl ⟨_, _, rfl, rfl, rfl⟩ (fun _ _ _ h => h) hM (fun w hC => r_nilCheck hl rfl) rfl ?_
  clear hl a; intro a hl
  refine d_take (i := 16) hl rfl (by kernel_rfl) (by kernel_rfl) (by kernel_rfl) (by kernel_rfl) (by kernel_rfl) rfl ⟨_, _, rfl, rfl, rfl⟩ (fun _ _ _ h => h) hM (fun w hC => r_field hl rfl fld46_1) rfl ?_
  clear hl a; intro a hl
  refine d_take (i := 17) hl rfl (by kernel_rfl) (by kernel_rfl) (by kernel_rfl) (by kernel_rfl) (by kernel_rfl) rfl ⟨_, _, rfl, rfl, rfl⟩ (fun _ _ _ h => h) hM (fun w hC => r_loadC hl rfl one44 hC (by repeat (first | exact find_head | apply find_tail)) (by first | exact sn_ed hc | rfl)) rfl ?_
  clear hl a; intro a hl
  rw [hp2] at hl
  refine d_one (i := 18) (by kernel_rfl) rfl ?_
  try clear hM
  refine id (w_call hl hh rfl ⟨_, _, rfl, rfl, rfl⟩ rfl cal63 rfl (eqE_spec _ (edK_len hG hq cc) (eg_ok hG hq) p1 p2 c1 c2 (Ee1 cc) (Ee2 cc) (hp1 ▸ hR1.e cc hc) (hp2 ▸ hR2.e cc hc)) (by repeat (first | exact keeps_nil | apply keeps_cons (by repeat (first | exact find_head | apply find_tail)) (by first  | rfl) | exact keeps_self | apply keeps_mv)) ⟨mem_keep hh (snL_e hpre.1 hc), mem_keep hh (snL_e hpre.2 hc)⟩ ?_)
  clear hl hh a w; intro vc Fc a w hR hl hh
  obtain ⟨rfl, rfl⟩ := hR
  try simp only [List.cons_append, List.nil_append] at hh
  refine d_step (fun h => absurd h (by decide)) ?_
  refine d_takeL (i := 19) hl rfl (by kernel_rfl) (by kernel_rfl) (by kernel_rfl) (by kernel_rfl) (by kernel_rfl) rfl trivial (fun _ _ _ h => h) (fun w => r_pickT hl rfl rfl) rfl ?_
  clear hl a; intro a hl
  refine d_takeL (i := 20) hl rfl (by kernel_rfl) (by kernel_rfl) (by kernel_rfl) (by kernel_rfl) (by kernel_rfl) rfl trivial (fun _ _ _ h => h) (fun w => r_assign hl rfl) rfl ?_
  clear hl a; intro a hl
  refine d_done (by kernel_rfl) ?_
  try clear hM
  have hl2 := hl.add (t := 4) (hl.nil) rfl; clear hl; have hl := hl2; clear hl2
  refine then_normal ?_
  refine wp_ret ?_
  refine f_ret1 (F' := []) hl hh rfl rfl (by repeat (first | exact keeps_nil | apply keeps_cons (by repeat (first | exact find_head | apply find_tail)) (by first  | rfl) | exact keeps_self | apply keeps_mv)) ?_
  exact ⟨rfl, rfl⟩

set_option maxHeartbeats 4000000 in
theorem eqState_spec {g : Gs} {B Q : Int} (hq : BQ B Q) (hG : GI B Q g) (k1 k2 : Nat) (ev1 bv1 ev2 bv2 : Nat → Value) (Ee1 Eb1 Ee2 Eb2 : Nat → List (Nat × Obj)) (hR1 : SnR g ev1 bv1 Ee1 Eb1) (hR2 : SnR g ev2 bv2 Ee2 Eb2) : SpK Tryz.prog 11 #[.pointer (some ⟨k1, 0, none⟩), .pointer (some ⟨k2, 0, none⟩)] (fun w => Mem (snL k1 g ev1 bv1 Ee1 Eb1) w ∧ Mem (snL k2 g ev2 bv2 Ee2 Eb2) w) [] (fun v F' => v = .bool true ∧ F' = []) := by
  refine f_enter (args := [.pointer (some ⟨k1, 0, none⟩), .pointer (some ⟨k2, 0, none⟩)]) Tryz.func11 rfl Tryz.ntmps11 rfl ?_
  intro w0 w a hpre hl hh
  have hb1 := hq.b; have hq1 := hq.q
  have hm1 := snL_k hpre.1
  have hm2 := snL_k hpre.2
  simp only [slotsFrom, Nat.reduceAdd] at hl
  refine c_seq ?_
  refine c_region ?_
  refine wl (wl_val hl rfl trivial (r_assign hl rfl) ?_)
  clear hl a; intro a hl
  refine w_nil ?_
  have hl2 := hl.add (t := 0) (hl.add (t := 1) (hl.nil) rfl) rfl; clear hl; have hl := hl2; clear hl2
  refine then_normal ?_
  refine c_seq ?_
  refine c_seq ?_
  refine c_draw [(k1, C (snC g ev1 bv1) 52), (k2, C (snC g ev2 bv2) 52)] [18, 19] mixed hh ?_
  clear hh w; intro w hh
  have hM : Mem [(k1, C (snC g ev1 bv1) 52), (k2, C (snC g ev2 bv2) 52)] w := (by (repeat (first | exact Mem.nil | refine Mem.consR hh (by assumption) (by simp) ?_ | refine Mem.cons hh.mem (by (repeat (first | exact find_head | apply find_tail)); done) ?_ | fail)); done)
  refine d_take (i := 0) hl rfl (by kernel_rfl) (by kernel_rfl) (by kernel_rfl) (by kernel_rfl) (by kernel_rfl) rfl trivial (fun _ _ _ h => h) hM (fun w hC => r_move hl rfl) rfl ?_
  clear hl a; intro a hl
  refine d_take (i := 1) hl rfl (by kernel_rfl) (by kernel_rfl) (by kernel_rfl) (by kernel_rfl) (by kernel_rfl) rfl trivial (fun _ _ _ h => h) hM (fun w hC => r_nilCheck hl rfl) rfl ?_
  clear hl a; intro a hl
  refine d_take (i := 2) hl rfl (by kernel_rfl) (by kernel_rfl) (by kernel_rfl) (by kernel_rfl) (by kernel_rfl) rfl trivial (fun _ _ _ h => h) hM (fun w hC => r_field hl rfl fld52_0) rfl ?_
  clear hl a; intro a hl
  refine d_take (i := 3) hl rfl (by kernel_rfl) (by kernel_rfl) (by kernel_rfl) (by kernel_rfl) (by kernel_rfl) rfl trivial (fun _ _ _ h => h) hM (fun w hC => r_loadCA hl rfl agg43 hC (by repeat (first | exact find_head | apply find_tail)) (by exact sn_ep _ _ _) (by exact arrL_length _ _)) rfl ?_
  clear hl a; intro a hl
  refine d_take (i := 4) hl rfl (by kernel_rfl) (by kernel_rfl) (by kernel_rfl) (by kernel_rfl) (by kernel_rfl) rfl trivial (fun _ _ _ h => h) hM (fun w hC => r_move hl rfl) rfl ?_
  clear hl a; intro a hl
  refine d_take (i := 5) hl rfl (by kernel_rfl) (by kernel_rfl) (by kernel_rfl) (by kernel_rfl) (by kernel_rfl) rfl trivial (fun _ _ _ h => h) hM (fun w hC => r_nilCheck hl rfl) rfl ?_
  clear hl a; intro a hl
  refine d_take (i := 6) hl rfl (by kernel_rfl) (by kernel_rfl) (by kernel_rfl) (by kernel_rfl) (by kernel_rfl) rfl trivial (fun _ _ _ h => h) hM (fun w hC => r_field hl rfl fld52_0) rfl ?_
  clear hl a; intro a hl
  refine d_take (i := 7) hl rfl (by kernel_rfl) (by kernel_rfl) (by kernel_rfl) (by kernel_rfl) (by kernel_rfl) rfl trivial (fun _ _ _ h => h) hM (fun w hC => r_loadCA hl rfl agg43 hC (by repeat (first | exact find_head | apply find_tail)) (by exact sn_ep _ _ _) (by exact arrL_length _ _)) rfl ?_
  clear hl a; intro a hl
  refine d_take (i := 8) hl rfl (by kernel_rfl) (by kernel_rfl) (by kernel_rfl) (by kernel_rfl) (by kernel_rfl) rfl trivial (fun _ _ _ h => h) hM (fun w hC => r_neqSame hl rfl rfl eqf43 shp43 (unl64 _) (fit64 (ep_rng hG hq))) rfl ?_
  clear hl a; intro a hl
  refine d_take (i := 9) hl rfl (by kernel_rfl) (by kernel_rfl) (by kernel_rfl) (by kernel_rfl) (by kernel_rfl) rfl trivial (fun _ _ _ h => h) hM (fun w hC => r_move hl rfl) rfl ?_
  clear hl a; intro a hl
  refine d_take (i := 10) hl rfl (by kernel_rfl) (by kernel_rfl) (by kernel_rfl) (by kernel_rfl) (by kernel_rfl) rfl ⟨_, _, rfl, rfl, rfl⟩ (fun _ _ _ h => h) hM (fun w hC => r_move hl rfl) rfl ?_
  clear hl a; intro a hl
  refine d_take (i := 11) hl rfl (by kernel_rfl) (by kernel_rfl) (by kernel_rfl) (by kernel_rfl) (by kernel_rfl) rfl ⟨_, _, rfl, rfl, rfl⟩ (fun _ _ _ h => h) hM (fun w hC => r_nilCheck hl rfl) rfl ?_
  clear hl a; intro a hl
  refine d_take (i := 12) hl rfl (by kernel_rfl) (by kernel_rfl) (by kernel_rfl) (by kernel_rfl) (by kernel_rfl) rfl ⟨_, _, rfl, rfl, rfl⟩ (fun _ _ _ h => h) hM (fun w hC => r_field hl rfl fld52_3) rfl ?_
  clear hl a; intro a hl
  refine d_take (i := 13) hl rfl (by kernel_rfl) (by kernel_rfl) (by kernel_rfl) (by kernel_rfl) (by kernel_rfl) rfl ⟨_, _, rfl, rfl, rfl⟩ (fun _ _ _ h => h) hM (fun w hC => r_loadCA hl rfl agg50 hC (by repeat (first | exact find_head | apply find_tail)) (by exact sn_wf _ _ _) (by exact mskA_len _)) rfl ?_
  clear hl a; intro a hl
  refine d_take (i := 14) hl rfl (by kernel_rfl) (by kernel_rfl) (by kernel_rfl) (by kernel_rfl) (by kernel_rfl) rfl ⟨_, _, rfl, rfl, rfl⟩ (fun _ _ _ h => h) hM (fun w hC => r_move hl rfl) rfl ?_
  clear hl a; intro a hl
  refine d_take (i := 15) hl rfl (by kernel_rfl) (by kernel_rfl) (by kernel_rfl) (by kernel_rfl) (by kernel_rfl) rfl ⟨_, _, rfl, rfl, rfl⟩ (fun _ _ _ h => h) hM (fun w hC => r_nilCheck hl rfl) rfl ?_
  clear hl a; intro a hl
  refine d_take (i := 16) hl rfl (by kernel_rfl) (by kernel_rfl) (by kernel_rfl) (by kernel_rfl) (by kernel_rfl) rfl ⟨_, _, rfl, rfl, rfl⟩ (fun _ _ _ h => h) hM (fun w hC => r_field hl rfl fld52_3) rfl ?_
  clear hl a; intro a hl
  refine d_take (i := 17) hl rfl (by kernel_rfl) (by kernel_rfl) (by kernel_rfl) (by kernel_rfl) (by kernel_rfl) rfl ⟨_, _, rfl, rfl, rfl⟩ (fun _ _ _ h => h) hM (fun w hC => r_loadCA hl rfl agg50 hC (by repeat (first | exact find_head | apply find_tail)) (by exact sn_wf _ _ _) (by exact mskA_len _)) rfl ?_
  clear hl a; intro a hl
  refine d_takeL (i := 18) hl rfl (by kernel_rfl) (by kernel_rfl) (by kernel_rfl) (by kernel_rfl) (by kernel_rfl) rfl ⟨_, _, rfl, rfl, rfl⟩ (fun _ _ _ h => h) (fun w => r_neqSame hl rfl rfl eqf50 shp50 (unl16 _) (fit16 _)) rfl ?_
  clear hl a; intro a hl
  refine d_takeL (i := 19) hl rfl (by kernel_rfl) (by kernel_rfl) (by kernel_rfl) (by kernel_rfl) (by kernel_rfl) rfl trivial (fun _ _ _ h => h) (fun w => r_pickF hl rfl rfl) rfl ?_
  clear hl a; intro a hl
  refine d_done (by kernel_rfl) ?_
  try clear hM
  have hl2 := hl.add (t := 0) (hl.add (t := 1) (hl.add (t := 26) (hl.nil) rfl) rfl) rfl; clear hl; have hl := hl2; clear hl2
  refine then_normal ?_
  refine c_condF hl rfl ?_
  refine wp_skip ?_
  refine then_normal ?_
  refine c_seq ?_
  refine c_seq ?_
  refine c_region ?_
  refine wl (wl_val hl rfl trivial (r_move hl rfl) ?_)
  clear hl a; intro a hl
  refine w_nil ?_
  have hl2 := hl.add (t := 0) (hl.add (t := 1) (hl.add (t := 27) (hl.nil) rfl) rfl) rfl; clear hl; have hl := hl2; clear hl2
  refine then_normal ?_
  refine wp_block ?_
  obtain ⟨KS0, hKS0, hk⟩ := (hl.add (t := 0) (hl.add (t := 1) (hl.nil) rfl) rfl).name
  obtain ⟨HS0, hHS0, hh2⟩ := hh.name (keeps_nil)
  refine c_loop (α := Nat) (fun cc => 4 - cc) (fun cc a w => (cc ≤ 4) ∧ Sl 61 ([(27, .int .i64 (cc : Int))] ++ KS0) a ∧ Has _ w0 ([] ++ HS0) w) 0 ⟨(by omega), hl.addE (t := 27) (hk) rfl (by first | rfl), hh2⟩ ?_
  clear hk hh2 hl hh a w
  intro cc a w hI
  obtain ⟨hi, hl, hh⟩ := hI
  subst hKS0; subst hHS0
  simp only [List.cons_append, List.nil_append, List.append_nil] at hl hh
  refine c_seq ?_
  refine c_region ?_
  refine wl (wl_val hl rfl trivial (r_lss hl rfl rfl) ?_)
  clear hl a; intro a hl
  refine w_nil ?_
  have hl2 := hl.add (t := 0) (hl.add (t := 1) (hl.add (t := 27) (hl.add (t := 28) (hl.nil) rfl) rfl) rfl) rfl; clear hl; have hl := hl2; clear hl2
  refine then_normal ?_
  refine c_seq ?_
  refine c_cond hl rfl ?_ ?_
  · intro hc1
    try simp only [decide_eq_true_eq, decide_eq_false_iff_not, Bool.not_eq_true', Bool.not_eq_false', Bool.not_eq_true, Bool.not_eq_false, Bool.and_eq_true, Bool.or_eq_true, Bool.and_eq_false_iff, Bool.or_eq_false_iff, Bool.not_not, ne_eq, Int.not_lt, Int.not_le, Decidable.not_not, beq_iff_eq, bne_iff_ne] at hc1
    refine wp_skip ?_
    refine then_normal ?_
    refine c_seq ?_
    refine wp_block ?_
    refine c_seq ?_
    refine c_region ?_
    refine wl (wl_val hl rfl trivial (r_move hl rfl) ?_)
    clear hl a; intro a hl
    refine wl (wl_val hl rfl trivial (r_assign hl rfl) ?_)
    clear hl a; intro a hl
    refine w_nil ?_
    have hl2 := hl.add (t := 0) (hl.add (t := 1) (hl.add (t := 5) (hl.add (t := 27) (hl.nil) rfl) rfl) rfl) rfl; clear hl; have hl := hl2; clear hl2
    refine then_normal ?_
    refine c_seq ?_
    refine c_draw [] [10, 11] mixed hh ?_
    clear hh w; intro w hh
    have hM : Mem [] w := Mem.nil
    refine d_take (i := 0) hl rfl (by kernel_rfl) (by kernel_rfl) (by kernel_rfl) (by kernel_rfl) (by kernel_rfl) rfl trivial (fun _ _ _ h => h) hM (fun w hC => r_move hl rfl) rfl ?_
    clear hl a; intro a hl
    refine d_take (i := 1) hl rfl (by kernel_rfl) (by kernel_rfl) (by kernel_rfl) (by kernel_rfl) (by kernel_rfl) rfl trivial (fun _ _ _ h => h) hM (fun w hC => r_move hl rfl) rfl ?_
    clear hl a; intro a hl
    refine d_take (i := 2) hl rfl (by kernel_rfl) (by kernel_rfl) (by kernel_rfl) (by kernel_rfl) (by kernel_rfl) rfl trivial (fun _ _ _ h => h) hM (fun w hC => r_nilCheck hl rfl) rfl ?_
    clear hl a; intro a hl
    refine d_take (i := 3) hl rfl (by kernel_rfl) (by kernel_rfl) (by kernel_rfl) (by kernel_rfl) (by kernel_rfl) rfl trivial (fun _ _ _ h => h) hM (fun w hC => r_field hl rfl fld52_1) rfl ?_
    clear hl a; intro a hl
    refine d_take (i := 4) hl rfl (by kernel_rfl) (by kernel_rfl) (by kernel_rfl) (by kernel_rfl) (by kernel_rfl) rfl trivial (fun _ _ _ h => h) hM (fun w hC => r_indexA hl rfl rfl arr47 (by omega) (by omega) (by first | (simp only [Int.reduceToNat]; rfl) | exact toNat_add1 _ | exact toNat_add2 _ _ | exact toNat_emod _ _ | exact Int.toNat_natCast _ | rfl)) rfl ?_
    clear hl a; intro a hl
    refine d_take (i := 5) hl rfl (by kernel_rfl) (by kernel_rfl) (by kernel_rfl) (by kernel_rfl) (by kernel_rfl) rfl trivial (fun _ _ _ h => h) hM (fun w hC => r_move hl rfl) rfl ?_
    clear hl a; intro a hl
    refine d_take (i := 6) hl rfl (by kernel_rfl) (by kernel_rfl) (by kernel_rfl) (by kernel_rfl) (by kernel_rfl) rfl trivial (fun _ _ _ h => h) hM (fun w hC => r_move hl rfl) rfl ?_
    clear hl a; intro a hl
    refine d_take (i := 7) hl rfl (by kernel_rfl) (by kernel_rfl) (by kernel_rfl) (by kernel_rfl) (by kernel_rfl) rfl trivial (fun _ _ _ h => h) hM (fun w hC => r_nilCheck hl rfl) rfl ?_
    clear hl a; intro a hl
    refine d_take (i := 8) hl rfl (by kernel_rfl) (by kernel_rfl) (by kernel_rfl) (by kernel_rfl) (by kernel_rfl) rfl trivial (fun _ _ _ h => h) hM (fun w hC => r_field hl rfl fld52_1) rfl ?_
    clear hl a; intro a hl
    refine d_take (i := 9) hl rfl (by kernel_rfl) (by kernel_rfl) (by kernel_rfl) (by kernel_rfl) (by kernel_rfl) rfl trivial (fun _ _ _ h => h) hM (fun w hC => r_indexA hl rfl rfl arr47 (by omega) (by omega) (by first | (simp only [Int.reduceToNat]; rfl) | exact toNat_add1 _ | exact toNat_add2 _ _ | exact toNat_emod _ _ | exact Int.toNat_natCast _ | rfl)) rfl ?_
    clear hl a; intro a hl
    refine d_one (i := 10) (by kernel_rfl) rfl ?_
    try clear hM
    refine id (w_call hl hh rfl trivial rfl cal36 rfl (eqS_spec hq hG k1 k2 ev1 bv1 ev2 bv2 Ee1 Eb1 Ee2 Eb2 hR1 hR2 cc (by omega)) (by repeat (first | exact keeps_nil | apply keeps_cons (by repeat (first | exact find_head | apply find_tail)) (by first  | rfl) | exact keeps_self | apply keeps_mv)) ⟨mem_keep hh hpre.1, mem_keep hh hpre.2⟩ ?_)
    clear hl hh a w; intro vc Fc a w hR hl hh
    obtain ⟨rfl, rfl⟩ := hR
    try simp only [List.cons_append, List.nil_append] at hh
    refine d_step (fun h => absurd h (by decide)) ?_
    refine d_takeL (i := 11) hl rfl (by kernel_rfl) (by kernel_rfl) (by kernel_rfl) (by kernel_rfl) (by kernel_rfl) rfl trivial (fun _ _ _ h => h) (fun w => r_not hl rfl) rfl ?_
    clear hl a; intro a hl
    refine d_done (by kernel_rfl) ?_
    try clear hM
    have hl2 := hl.add (t := 0) (hl.add (t := 1) (hl.add (t := 27) (hl.add (t := 41) (hl.nil) rfl) rfl) rfl) rfl; clear hl; have hl := hl2; clear hl2
    refine then_normal ?_
    refine c_condF hl rfl ?_
    refine wp_skip ?_
    refine blk_normal ?_
    refine then_normal ?_
    refine c_region ?_
    first | refine wl (wl_val hl rfl trivial (r_add hl rfl rfl (by simp only [Fits]; omega)) ?_) | refine wl (wl_val hl rfl trivial (r_addW hl rfl rfl) ?_)
    clear hl a; intro a hl
    refine wl (wl_val hl rfl trivial (r_move hl rfl) ?_)
    clear hl a; intro a hl
    refine w_nil ?_
    have hl2 := hl.add (t := 0) (hl.add (t := 1) (hl.add (t := 27) (hl.nil) rfl) rfl) rfl; clear hl; have hl := hl2; clear hl2
    refine then_normal ?_
    refine ⟨(cc + 1), (by omega), (by omega), hl.addE (t := 27) (hl.addE (t := 0) (hl.addE (t := 1) (hl.nil) rfl (by first | rfl | (congr 1; omega))) rfl (by first | rfl | (congr 1; omega))) rfl (by first | rfl | (congr 1; omega)), hh.keep (by repeat (first | exact keeps_nil | apply keeps_cons (by repeat (first | exact find_head | apply find_tail)) (by first  | rfl) | exact keeps_self | apply keeps_mv))⟩
  · intro hc1
    try simp only [decide_eq_true_eq, decide_eq_false_iff_not, Bool.not_eq_true', Bool.not_eq_false', Bool.not_eq_true, Bool.not_eq_false, Bool.and_eq_true, Bool.or_eq_true, Bool.and_eq_false_iff, Bool.or_eq_false_iff, Bool.not_not, ne_eq, Int.not_lt, Int.not_le, Decidable.not_not, beq_iff_eq, bne_iff_ne] at hc1
    refine wp_exit ?_
    refine then_exit ?_
    refine then_exit ?_
    refine blk_exit ?_
    refine then_normal ?_
    refine c_seq ?_
    refine c_seq ?_
    refine c_region ?_
    refine wl (wl_val hl rfl trivial (r_move hl rfl) ?_)
    clear hl a; intro a hl
    refine w_nil ?_
    have hl2 := hl.add (t := 0) (hl.add (t := 1) (hl.add (t := 43) (hl.nil) rfl) rfl) rfl; clear hl; have hl := hl2; clear hl2
    refine then_normal ?_
    refine wp_block ?_
    obtain ⟨KS1, hKS1, hk⟩ := (hl.add (t := 0) (hl.add (t := 1) (hl.nil) rfl) rfl).name
    obtain ⟨HS1, hHS1, hh2⟩ := hh.name (keeps_nil)
    refine c_loop (α := Nat) (fun b => 16 - b) (fun b a w => (b ≤ 16) ∧ Sl 61 ([(43, .int .i64 (b : Int))] ++ KS1) a ∧ Has _ w0 ([] ++ HS1) w) 0 ⟨(by omega), hl.addE (t := 43) (hk) rfl (by first | rfl), hh2⟩ ?_
    clear hk hh2 hl hh a w
    intro b a w hI
    obtain ⟨hi2, hl, hh⟩ := hI
    subst hKS1; subst hHS1
    simp only [List.cons_append, List.nil_append, List.append_nil] at hl hh
    refine c_seq ?_
    refine c_region ?_
    refine wl (wl_val hl rfl trivial (r_lss hl rfl rfl) ?_)
    clear hl a; intro a hl
    refine w_nil ?_
    have hl2 := hl.add (t := 0) (hl.add (t := 1) (hl.add (t := 43) (hl.add (t := 44) (hl.nil) rfl) rfl) rfl) rfl; clear hl; have hl := hl2; clear hl2
    refine then_normal ?_
    refine c_seq ?_
    refine c_cond hl rfl ?_ ?_
    · intro hc3
      try simp only [decide_eq_true_eq, decide_eq_false_iff_not, Bool.not_eq_true', Bool.not_eq_false', Bool.not_eq_true, Bool.not_eq_false, Bool.and_eq_true, Bool.or_eq_true, Bool.and_eq_false_iff, Bool.or_eq_false_iff, Bool.not_not, ne_eq, Int.not_lt, Int.not_le, Decidable.not_not, beq_iff_eq, bne_iff_ne] at hc3
      obtain ⟨p1, c1, hp1⟩ := row_val (hR1.b b (by omega))
      obtain ⟨p2, c2, hp2⟩ := row_val (hR2.b b (by omega))
      have h32 := hG.b32 b (by omega)
      refine wp_skip ?_
      refine then_normal ?_
      refine c_seq ?_
      refine wp_block ?_
      refine c_seq ?_
      refine c_region ?_
      refine wl (wl_val hl rfl trivial (r_move hl rfl) ?_)
      clear hl a; intro a hl
      refine wl (wl_val hl rfl trivial (r_assign hl rfl) ?_)
      clear hl a; intro a hl
      refine w_nil ?_
      have hl2 := hl.add (t := 0) (hl.add (t := 1) (hl.add (t := 6) (hl.add (t := 43) (hl.nil) rfl) rfl) rfl) rfl; clear hl; have hl := hl2; clear hl2
      refine then_normal ?_
      refine c_seq ?_
      refine c_draw [(k1, C (snC g ev1 bv1) 52), (k2, C (snC g ev2 bv2) 52)] [12, 13] mixed hh ?_
      clear hh w; intro w hh
      have hM : Mem [(k1, C (snC g ev1 bv1) 52), (k2, C (snC g ev2 bv2) 52)] w := (by (repeat (first | exact Mem.nil | refine Mem.consR hh (by assumption) (by simp) ?_ | refine Mem.cons hh.mem (by (repeat (first | exact find_head | apply find_tail)); done) ?_ | fail)); done)
      refine d_take (i := 0) hl rfl (by kernel_rfl) (by kernel_rfl) (by kernel_rfl) (by kernel_rfl) (by kernel_rfl) rfl trivial (fun _ _ _ h => h) hM (fun w hC => r_move hl rfl) rfl ?_
      clear hl a; intro a hl
      refine d_take (i := 1) hl rfl (by kernel_rfl) (by kernel_rfl) (by kernel_rfl) (by kernel_rfl) (by kernel_rfl) rfl trivial (fun _ _ _ h => h) hM (fun w hC => r_move hl rfl) rfl ?_
      clear hl a; intro a hl
      refine d_take (i := 2) hl rfl (by kernel_rfl) (by kernel_rfl) (by kernel_rfl) (by kernel_rfl) (by kernel_rfl) rfl trivial (fun _ _ _ h => h) hM (fun w hC => r_nilCheck hl rfl) rfl ?_
      clear hl a; intro a hl
      refine d_take (i := 3) hl rfl (by kernel_rfl) (by kernel_rfl) (by kernel_rfl) (by kernel_rfl) (by kernel_rfl) rfl trivial (fun _ _ _ h => h) hM (fun w hC => r_field hl rfl fld52_2) rfl ?_
      clear hl a; intro a hl
      refine d_take (i := 4) hl rfl (by kernel_rfl) (by kernel_rfl) (by kernel_rfl) (by kernel_rfl) (by kernel_rfl) rfl trivial (fun _ _ _ h => h) hM (fun w hC => r_indexA hl rfl rfl arr49 (by omega) (by omega) (by first | (simp only [Int.reduceToNat]; rfl) | exact toNat_add1 _ | exact toNat_add2 _ _ | exact toNat_emod _ _ | exact Int.toNat_natCast _ | rfl)) rfl ?_
      clear hl a; intro a hl
      refine d_take (i := 5) hl rfl (by kernel_rfl) (by kernel_rfl) (by kernel_rfl) (by kernel_rfl) (by kernel_rfl) rfl trivial (fun _ _ _ h => h) hM (fun w hC => r_loadC hl rfl one48 hC (by repeat (first | exact find_head | apply find_tail)) (by first | exact sn_bx (by omega) | rfl)) rfl ?_
      clear hl a; intro a hl
      rw [hp1] at hl
      refine d_take (i := 6) hl rfl (by kernel_rfl) (by kernel_rfl) (by kernel_rfl) (by kernel_rfl) (by kernel_rfl) rfl trivial (fun _ _ _ h => h) hM (fun w hC => r_move hl rfl) rfl ?_
      clear hl a; intro a hl
      refine d_take (i := 7) hl rfl (by kernel_rfl) (by kernel_rfl) (by kernel_rfl) (by kernel_rfl) (by kernel_rfl) rfl trivial (fun _ _ _ h => h) hM (fun w hC => r_move hl rfl) rfl ?_
      clear hl a; intro a hl
      refine d_take (i := 8) hl rfl (by kernel_rfl) (by kernel_rfl) (by kernel_rfl) (by kernel_rfl) (by kernel_rfl) rfl trivial (fun _ _ _ h => h) hM (fun w hC => r_nilCheck hl rfl) rfl ?_
      clear hl a; intro a hl
      refine d_take (i := 9) hl rfl (by kernel_rfl) (by kernel_rfl) (by kernel_rfl) (by kernel_rfl) (by kernel_rfl) rfl trivial (fun _ _ _ h => h) hM (fun w hC => r_field hl rfl fld52_2) rfl ?_
      clear hl a; intro a hl
      refine d_take (i := 10) hl rfl (by kernel_rfl) (by kernel_rfl) (by kernel_rfl) (by kernel_rfl) (by kernel_rfl) rfl trivial (fun _ _ _ h => h) hM (fun w hC => r_indexA hl rfl rfl arr49 (by omega) (by omega) (by first | (simp only [Int.reduceToNat]; rfl) | exact toNat_add1 _ | exact toNat_add2 _ _ | exact toNat_emod _ _ | exact Int.toNat_natCast _ | rfl)) rfl ?_
      clear hl a; intro a hl
      refine d_take (i := 11) hl rfl (by kernel_rfl) (by kernel_rfl) (by kernel_rfl) (by kernel_rfl) (by kernel_rfl) rfl trivial (fun _ _ _ h => h) hM (fun w hC => r_loadC hl rfl one48 hC (by repeat (first | exact find_head | apply find_tail)) (by first | exact sn_bx (by omega) | rfl)) rfl ?_
      clear hl a; intro a hl
      rw [hp2] at hl
      refine d_one (i := 12) (by kernel_rfl) rfl ?_
      try clear hM
      refine id (w_call hl hh rfl trivial rfl cal37 rfl (eqM_spec (g.bx b) (by omega) (ms_ok hG hq (by omega)) p1 p2 c1 c2 (Eb1 b) (Eb2 b) (hp1 ▸ hR1.b b (by omega)) (hp2 ▸ hR2.b b (by omega))) (by repeat (first | exact keeps_nil | apply keeps_cons (by repeat (first | exact find_head | apply find_tail)) (by first  | rfl) | exact keeps_self | apply keeps_mv)) ⟨mem_keep hh (snL_b hpre.1 (by omega)), mem_keep hh (snL_b hpre.2 (by omega))⟩ ?_)
      clear hl hh a w; intro vc Fc a w hR hl hh
      obtain ⟨rfl, rfl⟩ := hR
      try simp only [List.cons_append, List.nil_append] at hh
      refine d_step (fun h => absurd h (by decide)) ?_
      refine d_takeL (i := 13) hl rfl (by kernel_rfl) (by kernel_rfl) (by kernel_rfl) (by kernel_rfl) (by kernel_rfl) rfl trivial (fun _ _ _ h => h) (fun w => r_not hl rfl) rfl ?_
      clear hl a; intro a hl
      refine d_done (by kernel_rfl) ?_
      try clear hM
      have hl2 := hl.add (t := 0) (hl.add (t := 1) (hl.add (t := 43) (hl.add (t := 59) (hl.nil) rfl) rfl) rfl) rfl; clear hl; have hl := hl2; clear hl2
      refine then_normal ?_
      refine c_condF hl rfl ?_
      refine wp_skip ?_
      refine blk_normal ?_
      refine then_normal ?_
      refine c_region ?_
      first | refine wl (wl_val hl rfl trivial (r_add hl rfl rfl (by simp only [Fits]; omega)) ?_) | refine wl (wl_val hl rfl trivial (r_addW hl rfl rfl) ?_)
      clear hl a; intro a hl
      refine wl (wl_val hl rfl trivial (r_move hl rfl) ?_)
      clear hl a; intro a hl
      refine w_nil ?_
      have hl2 := hl.add (t := 0) (hl.add (t := 1) (hl.add (t := 43) (hl.nil) rfl) rfl) rfl; clear hl; have hl := hl2; clear hl2
      refine then_normal ?_
      refine ⟨(b + 1), (by omega), (by omega), hl.addE (t := 43) (hl.addE (t := 0) (hl.addE (t := 1) (hl.nil) rfl (by first | rfl | (congr 1; omega))) rfl (by first | rfl | (congr 1; omega))) rfl (by first | rfl | (congr 1; omega)), hh.keep (by repeat (first | exact keeps_nil | apply keeps_cons (by repeat (first | exact find_head | apply find_tail)) (by first  | rfl) | exact keeps_self | apply keeps_mv))⟩
    · intro hc3
      try simp only [decide_eq_true_eq, decide_eq_false_iff_not, Bool.not_eq_true', Bool.not_eq_false', Bool.not_eq_true, Bool.not_eq_false, Bool.and_eq_true, Bool.or_eq_true, Bool.and_eq_false_iff, Bool.or_eq_false_iff, Bool.not_not, ne_eq, Int.not_lt, Int.not_le, Decidable.not_not, beq_iff_eq, bne_iff_ne] at hc3
      refine wp_exit ?_
      refine then_exit ?_
      refine then_exit ?_
      refine blk_exit ?_
      refine then_normal ?_
      refine c_seq ?_
      refine c_region ?_
      refine wl (wl_val hl rfl trivial (r_assign hl rfl) ?_)
      clear hl a; intro a hl
      refine w_nil ?_
      have hl2 := hl.add (t := 4) (hl.nil) rfl; clear hl; have hl := hl2; clear hl2
      refine then_normal ?_
      refine wp_ret ?_
      refine f_ret1 (F' := []) hl hh rfl rfl (by repeat (first | exact keeps_nil | apply keeps_cons (by repeat (first | exact find_head | apply find_tail)) (by first  | rfl) | exact keeps_self | apply keeps_mv)) ?_
      exact ⟨rfl, rfl⟩
end Go.Proofs.Qxb6500911aGreatDoor

import Derived.Test.Qxb6500911aDoorA25
namespace Go.Proofs.Qxb6500911aDoor
open Go.Eng
set_option linter.unusedVariables false
set_option linter.unusedSimpArgs false
theorem one24 : oneOk Tryd.prog 24 = true := by kernel_rfl
theorem cal18 : callable Tryd.prog 18 = true := by kernel_rfl
theorem cal30 : callable Tryd.prog 30 = true := by kernel_rfl
theorem slc86 : slcOk Tryd.prog 86 1 = true := by kernel_rfl
theorem arr85 : arrOk Tryd.prog 85 3 7 = true := by kernel_rfl
/-! ## the three messages in any order -/
theorem low_and (x : Int) (k : Nat) (hk : k ≤ 16) : bitsOf .and .i64 x (2 ^ k - 1) = x % 2 ^ k := by
  have h1 : BitVec.ofInt 64 (2 ^ k - 1) = BitVec.ofNat 64 (2 ^ k - 1) := by
    have : ∀ k : Fin 17, BitVec.ofInt 64 (2 ^ k.1 - 1) = BitVec.ofNat 64 (2 ^ k.1 - 1) := by decide
    exact this ⟨k, by omega⟩
  have h2 : ∀ k : Fin 17, (BitVec.ofNat 64 (2 ^ k.1 - 1)).toNat = 2 ^ k.1 - 1 := by decide
  have h3 := h2 ⟨k, by omega⟩
  simp only at h3
  have hp : ∀ k : Fin 17, (2 : Nat) ^ k.1 ≤ 65536 ∧ 0 < 2 ^ k.1 ∧ ∃ c, 18446744073709551616 = 2 ^ k.1 * c := by
    intro k
    refine ⟨?_, Nat.pow_pos (by omega), 2 ^ (64 - k.1), ?_⟩
    · revert k; decide
    · revert k; decide
  obtain ⟨p1, p2, c, p3⟩ := hp ⟨k, by omega⟩
  simp only at p1 p2 p3
  show IntKind.i64.wrap ((BitVec.ofInt 64 x &&& BitVec.ofInt 64 (2 ^ k - 1)).toNat : Int) = _
  rw [h1, BitVec.toNat_and, h3, Nat.and_two_pow_sub_one_eq_mod, BitVec.toNat_ofInt]
  have e1 : ((((x % (2 ^ 64 : Nat)).toNat) % 2 ^ k : Nat) : Int) = x % 2 ^ k := by
    rw [Int.natCast_emod, Int.toNat_of_nonneg (Int.emod_nonneg _ (by decide))]
    rw [show ((2 ^ 64 : Nat) : Int) = ((2 ^ k * c : Nat) : Int) by rw [← p3], Int.natCast_mul]
    rw [Int.emod_emod_of_dvd _ (Int.dvd_mul_right _ _)]
    rw [Int.natCast_pow]; rfl
  rw [e1]
  have hb : (2 : Int) ^ k = ((2 ^ k : Nat) : Int) := by rw [Int.natCast_pow]; rfl
  rw [hb]
  have := Int.emod_nonneg x (b := ((2 ^ k : Nat) : Int)) (by omega)
  have := Int.emod_lt_of_pos x (b := ((2 ^ k : Nat) : Int)) (by omega)
  exact wrap_fits (by simp only [Fits]; omega)
theorem low16 (x : Int) : bitsOf .and .i64 x 15 = x % 16 := low_and x 4 (by omega)
theorem low4 (x : Int) : bitsOf .and .i64 x 3 = x % 4 := low_and x 2 (by omega)
theorem updI_id (f : Nat → Int) (w : Nat) : updI f w (f w) = f := by funext j; unfold updI; split <;> simp_all
theorem updW_id (f : Nat → List Wt) (w : Nat) : updW f w (f w) = f := by funext j; unfold updW; split <;> simp_all
theorem updI_2 (f : Nat → Int) (w : Nat) (x y : Int) : updI (updI f w x) w y = updI f w y := by funext j; unfold updI; split <;> simp_all
theorem updW_2 (f : Nat → List Wt) (w : Nat) (x y : List Wt) : updW (updW f w x) w y = updW f w y := by funext j; unfold updW; split <;> simp_all
theorem updI_at (f : Nat → Int) (w : Nat) (x : Int) : updI f w x w = x := by unfold updI; simp
theorem updW_at (f : Nat → List Wt) (w : Nat) (x : List Wt) : updW f w x w = x := by unfold updW; simp
theorem app_2 (g : Gs) (k k' : Int) (w : Nat) (e e' : Int) (s s' : BitVec 16) : applyG (applyG g ⟨k, w, e, s⟩) ⟨k', w, e', s'⟩ = { g with flr := updI g.flr w (apF k' (apF k (g.flr w) e) e'), ws := updW g.ws w (apL k' (apF k (g.flr w) e) (apL k (g.flr w) (g.ws w) e s) e' s') } := by
  unfold applyG
  simp only [updI_2, updW_2, updI_at, updW_at]
theorem app_id {g : Gs} {k : Int} {w : Nat} {e : Int} {s : BitVec 16} (hf : apF k (g.flr w) e = g.flr w) (hl : apL k (g.flr w) (g.ws w) e s = g.ws w) : applyG g ⟨k, w, e, s⟩ = g := by
  unfold applyG
  simp only
  rw [hf, hl, updI_id, updW_id]
theorem apF_12 {k fz e : Int} (h : k = 1 ∨ k = 2) : apF k fz e = fz := by unfold apF; rw [if_neg (by omega)]
theorem app_low {g : Gs} {k : Int} {w : Nat} {e : Int} {s : BitVec 16} (h : k = 1 ∨ k = 2) (hl : e < g.flr w) : applyG g ⟨k, w, e, s⟩ = g := by
  refine app_id (apF_12 h) ?_
  have hc : e < g.flr w ∨ s = 0#16 := .inl hl
  unfold apL adjS
  rcases h with rfl | rfl
  · rw [if_pos rfl, if_pos hc]
  · rw [if_neg (by decide), if_pos rfl, if_pos hc]
theorem adj_back {l : List Wt} {f e c : Int} {s : BitVec 16} (h : WsOk l f) (he : f ≤ e) : adjL e s (-c) (adjL e s c l) = l := by
  have h1 := adj_ok (s := s) (c := c) he h
  refine ws_ext (adj_ok he h1) h fun e' k => ?_
  rw [adj_nt h1, adj_nt h]
  split <;> omega
theorem adjS_back {l : List Wt} {f e c : Int} {s : BitVec 16} (h : WsOk l f) : adjS f (adjS f l e s c) e s (-c) = l := by
  unfold adjS
  by_cases h1 : e < f ∨ s = 0#16
  · rw [if_pos h1, if_pos h1]
  · rw [if_neg h1, if_neg h1]; exact adj_back h (by omega)
theorem app_12 {g : Gs} {w : Nat} {e : Int} {s : BitVec 16} (h : WsOk (g.ws w) (g.flr w)) : applyG (applyG g ⟨1, w, e, s⟩) ⟨2, w, e, s⟩ = g ∧ applyG (applyG g ⟨2, w, e, s⟩) ⟨1, w, e, s⟩ = g := by
  constructor
  · rw [app_2, apF_12 (.inl rfl), apF_12 (.inr rfl), updI_id]
    unfold apL
    rw [if_neg (by decide), if_pos rfl, if_pos rfl, adjS_back h, updW_id]
  · rw [app_2, apF_12 (.inr rfl), apF_12 (.inl rfl), updI_id]
    unfold apL
    rw [if_pos rfl, if_neg (by decide), if_pos rfl]
    have := adjS_back (c := -1) (s := s) (e := e) h
    rw [Int.neg_neg] at this
    rw [this, updW_id]
theorem app_k3 {g : Gs} {k : Int} {w : Nat} {e : Int} {s s' : BitVec 16} (hk : k = 1 ∨ k = 2) (h : WsOk (g.ws w) (g.flr w)) : applyG (applyG g ⟨k, w, e, s⟩) ⟨3, w, e, s'⟩ = applyG g ⟨3, w, e, s'⟩ := by
  by_cases c : e < g.flr w
  · rw [app_low hk c]
  · rw [app_2, apF_12 hk]
    unfold applyG
    simp only
    congr 2
    have e3 : ∀ l, apL 3 (g.flr w) l e s' = endL e l := fun l => by
      unfold apL; rw [if_neg (by decide), if_neg (by decide), if_pos ⟨rfl, by omega⟩]
    rw [e3, e3]
    have key : ∀ d, endL e (adjS (g.flr w) (g.ws w) e s d) = endL e (g.ws w) := by
      intro d
      unfold adjS
      by_cases hs : s = 0#16
      · rw [if_pos (.inr hs)]
      rw [if_neg (fun hc => hc.elim c hs)]
      have h1 := adj_ok (s := s) (c := d) (by omega : g.flr w ≤ e) h
      refine ws_ext (end_ok h1) (end_ok h) fun e' k' => ?_
      rw [end_nt, end_nt, adj_nt h]
      split
      · rfl
      · rw [if_neg (by omega)]; omega
    rcases hk with rfl | rfl
    · unfold apL; rw [if_pos rfl]; exact key 1
    · unfold apL; rw [if_neg (by decide), if_pos rfl]; exact key (-1)
theorem app_3k {g : Gs} {k : Int} {w : Nat} {e : Int} {s s' : BitVec 16} (hk : k = 1 ∨ k = 2) : applyG (applyG g ⟨3, w, e, s'⟩) ⟨k, w, e, s⟩ = applyG g ⟨3, w, e, s'⟩ := by
  refine app_low hk ?_
  unfold applyG
  simp only [updI_at]
  unfold apF
  split <;> omega
/-- the messages handled in an order -/
def plG (us : List Up) (g : Gs) (ord : List Nat) : Gs := ord.foldl (fun g j => match us[j]? with | some u => applyG g u | none => g) g
theorem plG_next {us : List Up} {g : Gs} {ord : List Nat} {i j : Nat} {u : Up} (h : ord[i]? = some j) (hu : us[j]? = some u) : plG us g (ord.take (i + 1)) = applyG (plG us g (ord.take i)) u := by
  unfold plG
  obtain ⟨hi, rfl⟩ := List.getElem?_eq_some_iff.1 h
  rw [List.take_succ_eq_append_getElem hi, List.foldl_append, List.foldl_cons, List.foldl_nil, hu]
section six
variable {g : Gs} {w : Nat} {e : Int} {s : BitVec 16}
def us7 (w : Nat) (e : Int) (s : BitVec 16) : List Up := [⟨1, w, e, s⟩, ⟨2, w, e, s⟩, ⟨3, w, e, 0#16⟩]
theorem pl01 (h : WsOk (g.ws w) (g.flr w)) : plG (us7 w e s) g [0, 1] = g := (app_12 h).1
theorem pl10 (h : WsOk (g.ws w) (g.flr w)) : plG (us7 w e s) g [1, 0] = g := (app_12 h).2
def ends (g : Gs) (w : Nat) (e : Int) : Gs := applyG g ⟨3, w, e, 0#16⟩
theorem pl3 (h : WsOk (g.ws w) (g.flr w)) (ord : List Nat) (ho : ord = [0, 1, 2] ∨ ord = [0, 2, 1] ∨ ord = [1, 0, 2] ∨ ord = [1, 2, 0] ∨ ord = [2, 0, 1] ∨ ord = [2, 1, 0]) : plG (us7 w e s) g ord = ends g w e := by
  rcases ho with rfl | rfl | rfl | rfl | rfl | rfl
  · show applyG (applyG (applyG g ⟨1, w, e, s⟩) ⟨2, w, e, s⟩) ⟨3, w, e, 0#16⟩ = _
    rw [(app_12 h).1]; rfl
  · show applyG (applyG (applyG g ⟨1, w, e, s⟩) ⟨3, w, e, 0#16⟩) ⟨2, w, e, s⟩ = _
    rw [app_k3 (.inl rfl) h, app_3k (.inr rfl)]; rfl
  · show applyG (applyG (applyG g ⟨2, w, e, s⟩) ⟨1, w, e, s⟩) ⟨3, w, e, 0#16⟩ = _
    rw [(app_12 h).2]; rfl
  · show applyG (applyG (applyG g ⟨2, w, e, s⟩) ⟨3, w, e, 0#16⟩) ⟨1, w, e, s⟩ = _
    rw [app_k3 (.inr rfl) h, app_3k (.inl rfl)]; rfl
  · show applyG (applyG (applyG g ⟨3, w, e, 0#16⟩) ⟨1, w, e, s⟩) ⟨2, w, e, s⟩ = _
    rw [app_3k (.inl rfl), app_3k (.inr rfl)]; rfl
  · show applyG (applyG (applyG g ⟨3, w, e, 0#16⟩) ⟨2, w, e, s⟩) ⟨1, w, e, s⟩ = _
    rw [app_3k (.inr rfl), app_3k (.inl rfl)]; rfl
end six
def ms7 (fr : Int) (w : Nat) (e : Int) (s : BitVec 16) : List Rm := [⟨fr, ((w % 4 : Nat) : Int), 1, w, e, mi s, 0⟩, ⟨fr, ((w % 4 : Nat) : Int), 2, w, e, mi s, 0⟩, ⟨fr, ((w % 4 : Nat) : Int), 3, w, e, 0, 0⟩]
theorem ms7_us {fr : Int} {w : Nat} {e Q : Int} {s : BitVec 16} (hw : w < 16) (he : 0 ≤ e ∧ e ≤ Q) (hQ : Q ≤ 1000000000000) (hs : s ≠ 0#16) (hb : s.getLsbD w = false) : ∀ j, j < 3 → ∃ m u, (ms7 fr w e s)[j]? = some m ∧ (us7 w e s)[j]? = some u ∧ decP m = some u ∧ u.e ≤ Q ∧ RmOk m := by
  have hr := mi_rng s
  have hrm : ∀ k x, (0 ≤ k ∧ k < 4) → (0 ≤ x ∧ x ≤ 65535) → RmOk ⟨fr, ((w % 4 : Nat) : Int), k, w, e, x, 0⟩ := fun k x hk hx => ⟨⟨by simp only; omega, by simp only; omega⟩, ⟨by simp only; omega, by simp only; omega⟩, ⟨by simp only; omega, by simp only; omega⟩, ⟨by simp only; omega, by simp only; omega⟩, ⟨by simp only; omega, by simp only; omega⟩⟩
  intro j hj
  match j, hj with
  | 0, _ => exact ⟨_, _, rfl, rfl, by rw [dec_in hw, if_neg (by rw [hb]; simp), if_pos (.inl ⟨.inl rfl, hs⟩)], he.2, hrm _ _ (by omega) hr⟩
  | 1, _ => exact ⟨_, _, rfl, rfl, by rw [dec_in hw, if_neg (by rw [hb]; simp), if_pos (.inl ⟨.inr rfl, hs⟩)], he.2, hrm _ _ (by omega) hr⟩
  | 2, _ => exact ⟨_, _, rfl, rfl, (dec_in (s := 0#16) hw).trans (by rw [if_neg (by simp), if_pos (.inr ⟨rfl, rfl⟩)]), he.2, hrm _ _ (by omega) (by omega)⟩
theorem rmc_len (m : Rm) : (rmc m).length = 7 := rfl
def ivc (j : Nat) : List Value := [.int .i64 (j : Int)]
theorem ivc_len (j : Nat) : (ivc j).length = 1 := rfl
structure PZ7 where
  g : Gs
  M : Mm
  i : Nat
theorem hdl_some {g : Gs} {m : Rm} {u : Up} (h : decP m = some u) : hdlG g m = (applyG g u, 0) := by unfold hdlG; rw [h]
theorem sh7_fl {fz : Nat → Int} {ev : Value} : ((arrL 17 (shV fz ev)).drop (0 + 0)).take 16 = arrL 16 (fun q => .int .u64 (fz q)) := by
  rw [arrL_cut (by omega)]
  exact arrL_congr fun q hq => by unfold shV; rw [if_neg (by omega)]; simp
theorem sh7_ed {fz : Nat → Int} {ev : Value} : (arrL 17 (shV fz ev))[0 + 16]? = some ev := arrL_get (by omega)
theorem BQ.up {B Q B' Q' : Int} (h : BQ B Q) (h1 : 0 ≤ B' ∧ B' ≤ B) (h2 : 0 ≤ Q' ∧ Q' ≤ Q) : BQ B' Q' := ⟨by have := h.b; omega, by have := h.q; omega⟩
theorem iv_at {ord : List Nat} {i j : Nat} (h : ord[i]? = some j) : (fl ivc ord ++ [])[0 + i * 1]? = some (.int .i64 (j : Int)) := fl_cell ivc_len h (show (ivc j)[0]? = some _ from rfl) []


set_option maxHeartbeats 1000000 in
theorem low16_spec (v : Int) : Sp Tryd.prog 30 #[.int .i64 v, .int .i64 16] [] (fun r F' => r = .int .i64 (v % 16) ∧ F' = []) := by
  refine f_enter (args := [.int .i64 v, .int .i64 16]) Tryd.func30 rfl Tryd.ntmps30 rfl ?_
  intro w0 w a hpre hl hh
  simp only [slotsFrom, Nat.reduceAdd] at hl
  refine c_seq ?_
  refine c_region ?_
  refine wl (wl_val hl rfl trivial (r_assign hl rfl) ?_)
  clear hl a; intro a hl
  refine w_nil ?_
  have hl2 := hl.add (t := 0) (hl.add (t := 1) (hl.nil) rfl) rfl; clear hl; have hl := hl2; clear hl2
  refine then_normal ?_
  refine c_seq ?_
  refine c_region ?_
  refine wl (wl_val hl rfl trivial (r_move hl rfl) ?_)
  clear hl a; intro a hl
  refine wl (wl_val hl rfl trivial (r_move hl rfl) ?_)
  clear hl a; intro a hl
  first | refine wl (wl_val hl rfl trivial (r_sub hl rfl rfl (by simp only [Fits]; omega)) ?_) | refine wl (wl_val hl rfl trivial (r_subW hl rfl rfl) ?_)
  clear hl a; intro a hl
  refine wl (wl_val hl rfl trivial (r_and hl rfl rfl) ?_)
  clear hl a; intro a hl
  refine wl (wl_val hl rfl trivial (r_assign hl rfl) ?_)
  clear hl a; intro a hl
  refine w_nil ?_
  have hl2 := hl.add (t := 4) (hl.nil) rfl; clear hl; have hl := hl2; clear hl2
  refine then_normal ?_
  refine wp_ret ?_
  refine f_ret1 (F' := []) hl hh rfl rfl (by repeat (first | exact keeps_nil | apply keeps_cons (by repeat (first | exact find_head | apply find_tail)) (by first  | rfl) | exact keeps_self | apply keeps_mv)) ?_
  exact ⟨congrArg (Value.int .i64) (low16 v), rfl⟩

set_option maxHeartbeats 1000000 in
theorem low4_spec (v : Int) : Sp Tryd.prog 30 #[.int .i64 v, .int .i64 4] [] (fun r F' => r = .int .i64 (v % 4) ∧ F' = []) := by
  refine f_enter (args := [.int .i64 v, .int .i64 4]) Tryd.func30 rfl Tryd.ntmps30 rfl ?_
  intro w0 w a hpre hl hh
  simp only [slotsFrom, Nat.reduceAdd] at hl
  refine c_seq ?_
  refine c_region ?_
  refine wl (wl_val hl rfl trivial (r_assign hl rfl) ?_)
  clear hl a; intro a hl
  refine w_nil ?_
  have hl2 := hl.add (t := 0) (hl.add (t := 1) (hl.nil) rfl) rfl; clear hl; have hl := hl2; clear hl2
  refine then_normal ?_
  refine c_seq ?_
  refine c_region ?_
  refine wl (wl_val hl rfl trivial (r_move hl rfl) ?_)
  clear hl a; intro a hl
  refine wl (wl_val hl rfl trivial (r_move hl rfl) ?_)
  clear hl a; intro a hl
  first | refine wl (wl_val hl rfl trivial (r_sub hl rfl rfl (by simp only [Fits]; omega)) ?_) | refine wl (wl_val hl rfl trivial (r_subW hl rfl rfl) ?_)
  clear hl a; intro a hl
  refine wl (wl_val hl rfl trivial (r_and hl rfl rfl) ?_)
  clear hl a; intro a hl
  refine wl (wl_val hl rfl trivial (r_assign hl rfl) ?_)
  clear hl a; intro a hl
  refine w_nil ?_
  have hl2 := hl.add (t := 4) (hl.nil) rfl; clear hl; have hl := hl2; clear hl2
  refine then_normal ?_
  refine wp_ret ?_
  refine f_ret1 (F' := []) hl hh rfl rfl (by repeat (first | exact keeps_nil | apply keeps_cons (by repeat (first | exact find_head | apply find_tail)) (by first  | rfl) | exact keeps_self | apply keeps_mv)) ?_
  exact ⟨congrArg (Value.int .i64) (low4 v), rfl⟩

set_option maxHeartbeats 2000000 in
theorem msg_spec (k x hm e : Int) (hx : 0 ≤ x ∧ x ≤ 65535) (wn : Nat) (hwn : wn < 16) (o : DO) (b5 b8 b6 b9 : Nat) : SpK Tryd.prog 31 #[.int .u32 k, .int .u16 x, .pointer (some ⟨b5, 0, none⟩), .pointer (some ⟨b8, 0, none⟩), .pointer (some ⟨b6, 0, none⟩), .pointer (some ⟨b9, 0, none⟩)] (Mem [(b5, C (opc o) 32), (b8, C [.int .i64 hm] 58), (b6, C [.int .i64 (wn : Int)] 52), (b9, C [.int .u64 e] 48)]) [] (fun v F' => v = .agg ⟨rmc ⟨o.b % 4, hm, k, wn, e, x, 0⟩⟩ ∧ F' = []) := by
  refine f_enter (args := [.int .u32 k, .int .u16 x, .pointer (some ⟨b5, 0, none⟩), .pointer (some ⟨b8, 0, none⟩), .pointer (some ⟨b6, 0, none⟩), .pointer (some ⟨b9, 0, none⟩)]) Tryd.func31 rfl Tryd.ntmps31 rfl ?_
  intro w0 w a hpre hl hh
  have hm5 := hpre _ _ (List.mem_cons_self ..)
  have hm8 := hpre _ _ (.tail _ (.head _))
  have hm6 := hpre _ _ (.tail _ (.tail _ (.head _)))
  have hm9 := hpre _ _ (.tail _ (.tail _ (.tail _ (.head _))))
  simp only [slotsFrom, Nat.reduceAdd] at hl
  refine c_seq ?_
  refine c_region ?_
  refine wl (w_alloc hl hh rfl trivial zero83 rfl ?_)
  clear hl hh a w; intro k8 a w hl hh
  refine w_nil ?_
  have hl2 := hl.add (t := 0) (hl.add (t := 1) (hl.add (t := 2) (hl.add (t := 3) (hl.add (t := 4) (hl.add (t := 5) (hl.add (t := 8) (hl.nil) rfl) rfl) rfl) rfl) rfl) rfl) rfl; clear hl; have hl := hl2; clear hl2
  refine then_normal ?_
  refine c_seq ?_
  refine c_draw [(b5, C (opc o) 32), (b8, C [.int .i64 hm] 58), (b6, C [.int .i64 (wn : Int)] 52), (b9, C [.int .u64 e] 48)] [11, 12] mixed hh ?_
  clear hh w; intro w hh
  have hM : Mem [(b5, C (opc o) 32), (b8, C [.int .i64 hm] 58), (b6, C [.int .i64 (wn : Int)] 52), (b9, C [.int .u64 e] 48)] w := (by (repeat (first | exact Mem.nil | refine Mem.consR hh (by assumption) (by simp) ?_ | refine Mem.cons hh.mem (by (repeat (first | exact find_head | apply find_tail)); done) ?_ | fail)); done)
  refine d_take (i := 0) hl rfl (by kernel_rfl) (by kernel_rfl) (by kernel_rfl) (by kernel_rfl) (by kernel_rfl) rfl trivial (fun _ _ _ h => h) hM (fun w hC => r_field hl rfl fld32_2) rfl ?_
  clear hl a; intro a hl
  refine d_take (i := 1) hl rfl (by kernel_rfl) (by kernel_rfl) (by kernel_rfl) (by kernel_rfl) (by kernel_rfl) rfl trivial (fun _ _ _ h => h) hM (fun w hC => r_loadC hl rfl one2 hC (by repeat (first | exact find_head | apply find_tail)) (by first | rfl)) rfl ?_
  clear hl a; intro a hl
  refine d_take (i := 3) hl rfl (by kernel_rfl) (by kernel_rfl) (by kernel_rfl) (by kernel_rfl) (by kernel_rfl) rfl trivial (fun _ _ _ h => h) hM (fun w hC => r_loadC hl rfl one58 hC (by repeat (first | exact find_head | apply find_tail)) (by first | rfl)) rfl ?_
  clear hl a; intro a hl
  refine d_take (i := 4) hl rfl (by kernel_rfl) (by kernel_rfl) (by kernel_rfl) (by kernel_rfl) (by kernel_rfl) rfl trivial (fun _ _ _ h => h) hM (fun w hC => r_move hl rfl) rfl ?_
  clear hl a; intro a hl
  refine d_take (i := 5) hl rfl (by kernel_rfl) (by kernel_rfl) (by kernel_rfl) (by kernel_rfl) (by kernel_rfl) rfl trivial (fun _ _ _ h => h) hM (fun w hC => r_loadC hl rfl one52 hC (by repeat (first | exact find_head | apply find_tail)) (by first | rfl)) rfl ?_
  clear hl a; intro a hl
  first | refine d_take (i := 6) hl rfl (by kernel_rfl) (by kernel_rfl) (by kernel_rfl) (by kernel_rfl) (by kernel_rfl) rfl trivial (fun _ _ _ h => h) hM (fun w hC => r_conv hl rfl Tryd.underlying52 Tryd.underlying48 (by simp only [Fits]; omega)) rfl ?_ | refine d_take (i := 6) hl rfl (by kernel_rfl) (by kernel_rfl) (by kernel_rfl) (by kernel_rfl) (by kernel_rfl) rfl trivial (fun _ _ _ h => h) hM (fun w hC => r_convM wm_u64 hl rfl Tryd.underlying52 Tryd.underlying48) rfl ?_
  clear hl a; intro a hl
  refine d_take (i := 7) hl rfl (by kernel_rfl) (by kernel_rfl) (by kernel_rfl) (by kernel_rfl) (by kernel_rfl) rfl trivial (fun _ _ _ h => h) hM (fun w hC => r_loadC hl rfl one48 hC (by repeat (first | exact find_head | apply find_tail)) (by first | rfl)) rfl ?_
  clear hl a; intro a hl
  refine d_take (i := 8) hl rfl (by kernel_rfl) (by kernel_rfl) (by kernel_rfl) (by kernel_rfl) (by kernel_rfl) rfl trivial (fun _ _ _ h => h) hM (fun w hC => r_move hl rfl) rfl ?_
  clear hl a; intro a hl
  first | refine d_take (i := 9) hl rfl (by kernel_rfl) (by kernel_rfl) (by kernel_rfl) (by kernel_rfl) (by kernel_rfl) rfl trivial (fun _ _ _ h => h) hM (fun w hC => r_conv hl rfl Tryd.underlying35 Tryd.underlying48 (by simp only [Fits]; omega)) rfl ?_ | refine d_take (i := 9) hl rfl (by kernel_rfl) (by kernel_rfl) (by kernel_rfl) (by kernel_rfl) (by kernel_rfl) rfl trivial (fun _ _ _ h => h) hM (fun w hC => r_convM wm_u64 hl rfl Tryd.underlying35 Tryd.underlying48) rfl ?_
  clear hl a; intro a hl
  refine d_take (i := 10) hl rfl (by kernel_rfl) (by kernel_rfl) (by kernel_rfl) (by kernel_rfl) (by kernel_rfl) rfl trivial (fun _ _ _ h => h) hM (fun w hC => r_build hl rfl zero81 bld81 (by simp only [fillL, setL, List.getElem?_cons_zero, List.getElem?_cons_succ, Value.cells, List.take_zero, List.take_succ_cons, List.take_nil, List.drop_zero, List.drop_succ_cons, List.drop_nil, List.length_cons, List.length_nil, List.cons_append, List.nil_append, List.append_nil, Nat.zero_add, Nat.add_zero, Nat.reduceAdd, Nat.reduceBEq, Nat.reduceEqDiff, Nat.ble, BEq.rfl, Bool.and_true, Bool.and_self, cond_true, beq_self_eq_true]; rfl)) rfl ?_
  clear hl a; intro a hl
  refine d_one (i := 2) (by kernel_rfl) rfl ?_
  try clear hM
  refine id (w_call hl hh rfl trivial rfl cal30 rfl (low4_spec o.b) (by repeat (first | exact keeps_nil | apply keeps_cons (by repeat (first | exact find_head | apply find_tail)) (by first  | rfl) | exact keeps_self | apply keeps_mv)) trivial ?_)
  clear hl hh a w; intro vc Fc a w hR hl hh
  obtain ⟨rfl, rfl⟩ := hR
  try simp only [List.cons_append, List.nil_append] at hh
  have hM : Mem [(b5, C (opc o) 32), (b8, C [.int .i64 hm] 58), (b6, C [.int .i64 (wn : Int)] 52), (b9, C [.int .u64 e] 48)] w := (by (repeat (first | exact Mem.nil | refine Mem.consR hh (by assumption) (by simp) ?_ | refine Mem.cons hh.mem (by (repeat (first | exact find_head | apply find_tail)); done) ?_ | fail)); done)
  refine d_step (fun _ => hM) ?_
  refine d_takeL (i := 11) hl rfl (by kernel_rfl) (by kernel_rfl) (by kernel_rfl) (by kernel_rfl) (by kernel_rfl) rfl trivial (fun _ _ _ h => h) (fun w => r_build hl rfl zero83 bld83 (by simp only [fillL, setL, List.getElem?_cons_zero, List.getElem?_cons_succ, Value.cells, List.take_zero, List.take_succ_cons, List.take_nil, List.drop_zero, List.drop_succ_cons, List.drop_nil, List.length_cons, List.length_nil, List.cons_append, List.nil_append, List.append_nil, Nat.zero_add, Nat.add_zero, Nat.reduceAdd, Nat.reduceBEq, Nat.reduceEqDiff, Nat.ble, BEq.rfl, Bool.and_true, Bool.and_self, cond_true, beq_self_eq_true]; rfl)) rfl ?_
  clear hl a; intro a hl
  refine d_one (i := 12) (by kernel_rfl) rfl ?_
  try clear hM
  refine id (w_storeA hl hh trivial agg83 rfl rfl (by repeat (first | exact find_head | apply find_tail)) (by first | rfl | (simp; done)) (by first | (simp; done) | (simp; omega)) (by first | rfl | (simp; done)) (by first | (simp only [setL, List.getElem?_cons_zero, List.getElem?_cons_succ, Value.cells, List.take_zero, List.take_succ_cons, List.take_nil, List.drop_zero, List.drop_succ_cons, List.drop_nil, List.length_cons, List.length_nil, List.cons_append, List.nil_append, List.append_nil, Nat.zero_add, Nat.add_zero, Nat.reduceAdd, Nat.reduceBEq, Nat.reduceEqDiff, Nat.ble, BEq.rfl, Bool.and_true, Bool.and_self, cond_true, beq_self_eq_true]; rfl)) ?_)
  clear hh w; intro w hh
  refine d_step (fun h => absurd h (by decide)) ?_
  refine d_done (by kernel_rfl) ?_
  try clear hM
  have hl2 := hl.add (t := 8) (hl.nil) rfl; clear hl; have hl := hl2; clear hl2
  refine then_normal ?_
  refine wp_ret ?_
  refine f_retC (F' := []) hl hh rfl rfl agg83 (by repeat (first | exact find_head | apply find_tail)) (by first | rfl | exact arrL_length _ _ | (simp; done)) (by repeat (first | exact keeps_nil | apply keeps_cons (by repeat (first | exact find_head | apply find_tail)) (by first  | rfl) | exact keeps_self | apply keeps_mv)) ?_
  exact ⟨rfl, rfl⟩

set_option maxHeartbeats 4000000 in
theorem play_spec {g : Gs} {M : Mm} (hS : SysF g M) (bg : Nat) (tT : TypeId) (tf : Nat × Nat) (B Q : Int) (hq : BQ (B + 50) (Q + 400)) (hB0 : 0 ≤ B) (hQ0 : 0 ≤ Q) (hG : GI B Q g) (cc : Nat) (hc : cc < 4) (ms : List Rm) (us : List Up) (hms : ∀ j, j < 3 → ∃ m u, ms[j]? = some m ∧ us[j]? = some u ∧ decP m = some u ∧ u.e ≤ Q ∧ RmOk m) (hm3 : ms.length = 3) (ord : List Nat) (ho : ∀ j, j ∈ ord → j < 3) (hol : ord.length ≤ 3) (cp ko b3 b11 b8 : Nat) : SpK Tryd.prog 32 #[.slice (some ⟨ko, 0, none⟩) ord.length cp, .pointer (some ⟨b3, 0, none⟩), .pointer (some ⟨b11, 0, none⟩), .pointer (some ⟨b8, 0, none⟩)] (fun w => (Mem (sysL bg M) w ∧ w.heap[0]? = some (.cells ⟨tabL⟩ tT tf)) ∧ w.heap[b3]? = some (C [.pointer (some ⟨bg, 0, none⟩)] 24) ∧ w.heap[b11]? = some (C (fl rmc ms ++ []) 85) ∧ w.heap[b8]? = some (C [.int .i64 (cc : Int)] 58) ∧ w.heap[ko]? = some (C (fl ivc ord ++ []) 3)) [] (fun v F' => ∃ ev, v = .agg ⟨arrL 17 (shV (flK (plG us g ord).flr cc) ev)⟩ ∧ Row ev (edN (wsK (plG us g ord).ws cc) 16).length (fl egc (edN (wsK (plG us g ord).ws cc) 16)) 4 64 F') := by
  refine f_enter (args := [.slice (some ⟨ko, 0, none⟩) ord.length cp, .pointer (some ⟨b3, 0, none⟩), .pointer (some ⟨b11, 0, none⟩), .pointer (some ⟨b8, 0, none⟩)]) Tryd.func32 rfl Tryd.ntmps32 rfl ?_
  intro w0 w a hpre hl hh
  obtain ⟨⟨hmS, hm0⟩, hm3_, hm11, hm8, hmo⟩ := hpre
  simp only [slotsFrom, Nat.reduceAdd] at hl
  refine c_seq ?_
  refine c_region ?_
  refine wl (w_alloc hl hh rfl trivial zero61 rfl ?_)
  clear hl hh a w; intro k5 a w hl hh
  refine w_nil ?_
  have hl2 := hl.add (t := 0) (hl.add (t := 1) (hl.add (t := 2) (hl.add (t := 3) (hl.add (t := 5) (hl.nil) rfl) rfl) rfl) rfl) rfl; clear hl; have hl := hl2; clear hl2
  refine then_normal ?_
  refine c_seq ?_
  refine c_region ?_
  first | refine wl (w_load hl hh rfl trivial one24 rfl (by repeat (first | exact find_head | apply find_tail | apply find_skip)) (by first | rfl) ?_) | refine wl (w_loadR hl hh rfl trivial one24 rfl hm3_ (by simp) rfl ?_) | refine wl (w_loadR hl hh rfl trivial one24 rfl hm8 (by simp) rfl ?_) | refine wl (w_loadR hl hh rfl trivial one24 rfl hmo (by simp) (iv_at hj) ?_)
  clear hl a; intro a hl
  refine wl (w_call hl hh rfl trivial rfl cal18 rfl (clone_spec hS bg B Q (hq.up (by omega) (by omega)) hG) (by repeat (first | exact keeps_nil | apply keeps_cons (by repeat (first | exact find_head | apply find_tail | apply find_skip)) (by first  | rfl) | exact keeps_self | exact keeps_left | apply keeps_app | apply keeps_mv | apply keeps_skip)) (mem_keep hh hmS) ?_)
  clear hl hh a w; intro vc Fc a w hR hl hh
  obtain ⟨bc, Mc, rfl, hFc, hSc⟩ := hR
  try simp only [List.cons_append, List.nil_append, List.append_assoc, List.append_nil] at hh
  subst hFc
  refine wl (wl_val hl rfl trivial (r_assign hl rfl) ?_)
  clear hl a; intro a hl
  refine w_nil ?_
  have hl2 := hl.add (t := 0) (hl.add (t := 2) (hl.add (t := 3) (hl.add (t := 5) (hl.add (t := 6) (hl.nil) rfl) rfl) rfl) rfl) rfl; clear hl; have hl := hl2; clear hl2
  refine then_normal ?_
  refine c_seq ?_
  refine c_seq ?_
  refine c_region ?_
  refine wl (wl_val hl rfl trivial (r_move hl rfl) ?_)
  clear hl a; intro a hl
  refine wl (wl_val hl rfl trivial (r_lenS hl rfl slc86) ?_)
  clear hl a; intro a hl
  refine wl (wl_val hl rfl trivial (r_move hl rfl) ?_)
  clear hl a; intro a hl
  refine w_nil ?_
  have hl2 := hl.add (t := 2) (hl.add (t := 3) (hl.add (t := 5) (hl.add (t := 6) (hl.add (t := 11) (hl.add (t := 12) (hl.add (t := 13) (hl.nil) rfl) rfl) rfl) rfl) rfl) rfl) rfl; clear hl; have hl := hl2; clear hl2
  refine then_normal ?_
  refine wp_block ?_
  obtain ⟨KS0, hKS0, hk⟩ := (hl.add (t := 2) (hl.add (t := 3) (hl.add (t := 5) (hl.add (t := 6) (hl.add (t := 11) (hl.add (t := 12) (hl.nil) rfl) rfl) rfl) rfl) rfl) rfl).name
  obtain ⟨HS0, hHS0, hh2⟩ := hh.nameT (A := []) (U := (sysL bc Mc)) ((by repeat (first | exact keeps_nil | exact keeps_self | exact keeps_left | apply keeps_app | apply keeps_mv | apply keeps_skip)))
  refine c_loop (α := PZ7) (fun z => ord.length - z.i) (fun z a w => (z.i ≤ ord.length ∧ z.g = plG us g (ord.take z.i) ∧ SysF z.g z.M ∧ GI (B + z.i) Q z.g) ∧ Sl 30 ([(13, .int .i64 (z.i : Int))] ++ KS0) a ∧ Has _ w0 ([] ++ (HS0 ++ (sysL bc z.M))) w) ⟨g, Mc, 0⟩ ⟨⟨Nat.zero_le _, rfl, hSc, by simpa using hG⟩, hl.addE (t := 13) (hk) rfl (by first | rfl), hh2⟩ ?_
  clear hk hh2 hl hh a w
  intro z a w hI
  obtain ⟨⟨hzi, hgz, hSz, hGz⟩, hl, hh⟩ := hI
  subst hKS0; subst hHS0
  simp only [List.cons_append, List.nil_append, List.append_nil, List.append_assoc] at hl hh
  refine c_seq ?_
  refine c_region ?_
  refine wl (wl_val hl rfl trivial (r_lss hl rfl rfl) ?_)
  clear hl a; intro a hl
  refine w_nil ?_
  have hl2 := hl.add (t := 2) (hl.add (t := 3) (hl.add (t := 5) (hl.add (t := 6) (hl.add (t := 11) (hl.add (t := 12) (hl.add (t := 13) (hl.add (t := 14) (hl.nil) rfl) rfl) rfl) rfl) rfl) rfl) rfl) rfl; clear hl; have hl := hl2; clear hl2
  refine then_normal ?_
  refine c_seq ?_
  refine c_cond hl rfl ?_ ?_
  · intro hc0
    try simp only [decide_eq_true_eq, decide_eq_false_iff_not, Bool.not_eq_true', Bool.not_eq_false', Bool.not_eq_true, Bool.not_eq_false, Bool.and_eq_true, Bool.or_eq_true, Bool.and_eq_false_iff, Bool.or_eq_false_iff, Bool.not_not, ne_eq, Int.not_lt, Int.not_le, Decidable.not_not, beq_iff_eq, bne_iff_ne] at hc0
    obtain ⟨j, hj⟩ : ∃ j, ord[z.i]? = some j := ⟨_, List.getElem?_eq_getElem (by omega)⟩
    have hj3 := ho j (List.mem_of_getElem? hj)
    obtain ⟨m, u, hmj, huj, hdec, hue, hrm⟩ := hms j hj3
    have hrd := fl_at rmc_len hmj []
    refine wp_skip ?_
    refine then_normal ?_
    refine c_seq ?_
    refine wp_block ?_
    refine c_seq ?_
    refine c_region ?_
    refine wl (wl_val hl rfl trivial (r_indexS hl rfl rfl slc86 (by omega) (by omega) (by first | (simp only [Int.reduceToNat]; rfl) | exact toNat_add1 _ | exact toNat_add2 _ _ | exact toNat_emod _ _ | exact Int.toNat_natCast _ | rfl)) ?_)
    clear hl a; intro a hl
    first | refine wl (w_load hl hh rfl trivial one3 rfl (by repeat (first | exact find_head | apply find_tail | apply find_skip)) (by first | rfl) ?_) | refine wl (w_loadR hl hh rfl trivial one3 rfl hm3_ (by simp) rfl ?_) | refine wl (w_loadR hl hh rfl trivial one3 rfl hm8 (by simp) rfl ?_) | refine wl (w_loadR hl hh rfl trivial one3 rfl hmo (by simp) (iv_at hj) ?_)
    clear hl a; intro a hl
    refine wl (wl_val hl rfl trivial (r_assign hl rfl) ?_)
    clear hl a; intro a hl
    refine w_nil ?_
    have hl2 := hl.add (t := 2) (hl.add (t := 3) (hl.add (t := 5) (hl.add (t := 6) (hl.add (t := 8) (hl.add (t := 11) (hl.add (t := 12) (hl.add (t := 13) (hl.nil) rfl) rfl) rfl) rfl) rfl) rfl) rfl) rfl; clear hl; have hl := hl2; clear hl2
    refine then_normal ?_
    refine c_seq ?_
    refine c_region ?_
    refine wl (wl_val hl rfl trivial (r_move hl rfl) ?_)
    clear hl a; intro a hl
    refine wl (wl_val hl rfl trivial (r_move hl rfl) ?_)
    clear hl a; intro a hl
    refine wl (wl_val hl rfl trivial (r_indexA hl rfl rfl arr85 (by omega) (by omega) (by first | (simp only [Int.reduceToNat]; rfl) | exact toNat_add1 _ | exact toNat_add2 _ _ | exact toNat_emod _ _ | exact Int.toNat_natCast _ | rfl)) ?_)
    clear hl a; intro a hl
    first | refine wl (w_loadA hl hh rfl trivial agg83 rfl (by repeat (first | exact find_head | apply find_tail | apply find_skip)) (by first | exact arrL_length _ _ | (simp only [List.getElem?_cons_zero, List.getElem?_cons_succ, Value.cells, List.take_zero, List.take_succ_cons, List.take_nil, List.drop_zero, List.drop_succ_cons, List.drop_nil, List.length_cons, List.length_nil, List.cons_append, List.nil_append, List.append_nil, Nat.zero_add, Nat.add_zero, Nat.reduceAdd, Nat.reduceBEq, Nat.reduceEqDiff, Nat.ble, BEq.rfl, Bool.and_true, Bool.and_self, cond_true, beq_self_eq_true]; rfl)) (by first | rfl | (simp; done)) ?_) | refine wl (w_loadRA hl hh rfl trivial agg83 rfl hm11 (by simp) hrd rfl ?_)
    clear hl a; intro a hl
    refine wl (w_call hl hh rfl trivial rfl cal33 rfl (handle_spec hSz bc tT tf (B + z.i) Q (hq.up (by omega) (by omega)) (by omega) hQ0 hGz m hrm (fun u9 h9 => by rw [hdec] at h9; cases h9; exact hue)) (by repeat (first | exact keeps_nil | apply keeps_cons (by repeat (first | exact find_head | apply find_tail | apply find_skip)) (by first  | rfl) | exact keeps_self | exact keeps_left | apply keeps_app | apply keeps_mv | apply keeps_skip)) (pt_law hh hm0 (by repeat (first | exact keeps_nil | apply keeps_cons (by repeat (first | exact find_head | apply find_tail | apply find_skip)) (by first  | rfl) | exact keeps_self | exact keeps_left | apply keeps_app | apply keeps_mv | apply keeps_skip))) ?_)
    clear hl hh a w; intro vc Fc a w hR hl hh
    obtain ⟨rfl, M9, hF9, hS9, hG9, hbm9, hbt9⟩ := hR
    try simp only [List.cons_append, List.nil_append, List.append_assoc, List.append_nil] at hh
    subst hF9
    rw [hdl_some hdec] at hl hS9 hG9
    refine wl (wl_val hl rfl trivial (r_neq hl rfl rfl) ?_)
    clear hl a; intro a hl
    refine w_nil ?_
    have hl2 := hl.add (t := 2) (hl.add (t := 3) (hl.add (t := 5) (hl.add (t := 6) (hl.add (t := 11) (hl.add (t := 12) (hl.add (t := 13) (hl.add (t := 22) (hl.nil) rfl) rfl) rfl) rfl) rfl) rfl) rfl) rfl; clear hl; have hl := hl2; clear hl2
    refine then_normal ?_
    refine c_cond hl rfl ?_ ?_
    · intro hc1
      try simp only [decide_eq_true_eq, decide_eq_false_iff_not, Bool.not_eq_true', Bool.not_eq_false', Bool.not_eq_true, Bool.not_eq_false, Bool.and_eq_true, Bool.or_eq_true, Bool.and_eq_false_iff, Bool.or_eq_false_iff, Bool.not_not, ne_eq, Int.not_lt, Int.not_le, Decidable.not_not, beq_iff_eq, bne_iff_ne] at hc1
      exfalso; first | contradiction | omega
    · intro hc1
      try simp only [decide_eq_true_eq, decide_eq_false_iff_not, Bool.not_eq_true', Bool.not_eq_false', Bool.not_eq_true, Bool.not_eq_false, Bool.and_eq_true, Bool.or_eq_true, Bool.and_eq_false_iff, Bool.or_eq_false_iff, Bool.not_not, ne_eq, Int.not_lt, Int.not_le, Decidable.not_not, beq_iff_eq, bne_iff_ne] at hc1
      refine wp_skip ?_
      refine blk_normal ?_
      refine then_normal ?_
      refine c_region ?_
      first | refine wl (wl_val hl rfl trivial (r_add hl rfl rfl (by simp only [Fits]; omega)) ?_) | refine wl (wl_val hl rfl trivial (r_addW hl rfl rfl) ?_)
      clear hl a; intro a hl
      refine wl (wl_val hl rfl trivial (r_move hl rfl) ?_)
      clear hl a; intro a hl
      refine w_nil ?_
      have hl2 := hl.add (t := 2) (hl.add (t := 3) (hl.add (t := 5) (hl.add (t := 6) (hl.add (t := 11) (hl.add (t := 12) (hl.add (t := 13) (hl.nil) rfl) rfl) rfl) rfl) rfl) rfl) rfl; clear hl; have hl := hl2; clear hl2
      refine then_normal ?_
      refine ⟨⟨applyG z.g u, M9, z.i + 1⟩, (by simp only; omega), ⟨by simp only; omega, by simp only; rw [plG_next hj huj, hgz], hS9, by simp only; exact hG9.mono (by omega) (Int.le_refl _)⟩, hl.addE (t := 13) (hl.addE (t := 2) (hl.addE (t := 3) (hl.addE (t := 5) (hl.addE (t := 6) (hl.addE (t := 11) (hl.addE (t := 12) (hl.nil) rfl (by first | rfl | (congr 1; omega))) rfl (by first | rfl | (congr 1; omega))) rfl (by first | rfl | (congr 1; omega))) rfl (by first | rfl | (congr 1; omega))) rfl (by first | rfl | (congr 1; omega))) rfl (by first | rfl | (congr 1; omega))) rfl (by first | rfl | (congr 1; omega)), hh.keep (by repeat (first | exact keeps_nil | apply keeps_cons (by repeat (first | exact find_head | apply find_tail | apply find_skip)) (by first  | rfl) | exact keeps_self | exact keeps_left | apply keeps_app | apply keeps_mv | apply keeps_skip))⟩
  · intro hc0
    try simp only [decide_eq_true_eq, decide_eq_false_iff_not, Bool.not_eq_true', Bool.not_eq_false', Bool.not_eq_true, Bool.not_eq_false, Bool.and_eq_true, Bool.or_eq_true, Bool.and_eq_false_iff, Bool.or_eq_false_iff, Bool.not_not, ne_eq, Int.not_lt, Int.not_le, Decidable.not_not, beq_iff_eq, bne_iff_ne] at hc0
    have hzo : z.i = ord.length := by omega
    rw [hzo, List.take_length] at hgz
    rw [hgz] at hSz hGz
    refine wp_exit ?_
    refine then_exit ?_
    refine then_exit ?_
    refine blk_exit ?_
    refine then_normal ?_
    refine c_seq ?_
    refine c_region ?_
    refine wl (wl_val hl rfl trivial (r_move hl rfl) ?_)
    clear hl a; intro a hl
    first | refine wl (w_load hl hh rfl trivial one58 rfl (by repeat (first | exact find_head | apply find_tail | apply find_skip)) (by first | rfl) ?_) | refine wl (w_loadR hl hh rfl trivial one58 rfl hm3_ (by simp) rfl ?_) | refine wl (w_loadR hl hh rfl trivial one58 rfl hm8 (by simp) rfl ?_) | refine wl (w_loadR hl hh rfl trivial one58 rfl hmo (by simp) (iv_at hj) ?_)
    clear hl a; intro a hl
    refine wl (w_call hl hh rfl trivial rfl cal22 rfl (shard_spec hSz bc (B + z.i) Q (hq.up (by omega) (by omega)) hGz cc hc) (by repeat (first | exact keeps_nil | apply keeps_cons (by repeat (first | exact find_head | apply find_tail | apply find_skip)) (by first  | rfl) | exact keeps_self | exact keeps_left | apply keeps_app | apply keeps_mv | apply keeps_skip)) (memK (E := sysL bc z.M) hh (by repeat (first | exact keeps_nil | apply keeps_cons (by repeat (first | exact find_head | apply find_tail | apply find_skip)) (by first  | rfl) | exact keeps_self | exact keeps_left | apply keeps_app | apply keeps_mv | apply keeps_skip))) ?_)
    clear hl hh a w; intro vc Fc a w hR hl hh
    obtain ⟨ve, rfl, hRe⟩ := hR
    try simp only [List.cons_append, List.nil_append, List.append_assoc, List.append_nil] at hh
    generalize Fc = Ee at hh hRe
    refine wl (w_storeA hl hh trivial agg61 rfl rfl (by repeat (first | exact find_head | apply find_tail | apply find_skip)) (by first | rfl | (simp; done) | exact arrL_length _ _) (by first | (simp; done) | (simp; omega) | (rw [arrL_length]; omega)) (by first | rfl | (simp; done) | exact arrL_all (fun j => ite_one hRe.one rfl)) (by first | exact setL_whole (arrL_length _ _) | (simp only [setL, List.getElem?_cons_zero, List.getElem?_cons_succ, Value.cells, List.take_zero, List.take_succ_cons, List.take_nil, List.drop_zero, List.drop_succ_cons, List.drop_nil, List.length_cons, List.length_nil, List.cons_append, List.nil_append, List.append_nil, Nat.zero_add, Nat.add_zero, Nat.reduceAdd, Nat.reduceBEq, Nat.reduceEqDiff, Nat.ble, BEq.rfl, Bool.and_true, Bool.and_self, cond_true, beq_self_eq_true]; rfl)) ?_)
    clear hh w; intro w hh
    refine w_nil ?_
    have hl2 := hl.add (t := 5) (hl.nil) rfl; clear hl; have hl := hl2; clear hl2
    refine then_normal ?_
    refine wp_ret ?_
    refine f_retC (F' := Ee) hl hh rfl rfl agg61 (by repeat (first | exact find_head | apply find_tail | apply find_skip)) (by first | rfl | exact arrL_length _ _ | (simp; done)) (by repeat (first | exact keeps_nil | apply keeps_cons (by repeat (first | exact find_head | apply find_tail | apply find_skip)) (by first  | rfl) | exact keeps_self | exact keeps_left | apply keeps_app | apply keeps_mv | apply keeps_skip)) ?_
    exact ⟨_, rfl, hRe⟩

set_option maxHeartbeats 2000000 in
theorem eqS2_spec (fz : Nat → Int) (hfz : ∀ j, j < 16 → 0 ≤ fz j ∧ fz j ≤ 1000000000000) (es : List Eg) (hel : es.length ≤ 100000000000) (hfit : ∀ x, x ∈ es → EgFit x) (k1 k2 : Nat) (ev1 ev2 : Value) (E1 E2 : List (Nat × Obj)) (hR1 : Row ev1 es.length (fl egc es) 4 64 E1) (hR2 : Row ev2 es.length (fl egc es) 4 64 E2) : SpK Tryd.prog 34 #[.pointer (some ⟨k1, 0, none⟩), .pointer (some ⟨k2, 0, none⟩)] (fun w => Mem ((k1, C (arrL 17 (shV fz ev1)) 61) :: E1) w ∧ Mem ((k2, C (arrL 17 (shV fz ev2)) 61) :: E2) w) [] (fun v F' => v = .bool true ∧ F' = []) := by
  refine f_enter (args := [.pointer (some ⟨k1, 0, none⟩), .pointer (some ⟨k2, 0, none⟩)]) Tryd.func34 rfl Tryd.ntmps34 rfl ?_
  intro w0 w a hpre hl hh
  have hm1 := hpre.1 _ _ (List.mem_cons_self ..)
  have hm2 := hpre.2 _ _ (List.mem_cons_self ..)
  obtain ⟨p1, c1, hp1⟩ := row_val hR1
  obtain ⟨p2, c2, hp2⟩ := row_val hR2
  simp only [slotsFrom, Nat.reduceAdd] at hl
  refine c_seq ?_
  refine c_region ?_
  refine wl (wl_val hl rfl trivial (r_assign hl rfl) ?_)
  clear hl a; intro a hl
  refine w_nil ?_
  have hl2 := hl.add (t := 0) (hl.add (t := 1) (hl.nil) rfl) rfl; clear hl; have hl := hl2; clear hl2
  refine then_normal ?_
  refine c_seq ?_
  refine c_draw [(k1, C (arrL 17 (shV fz ev1)) 61), (k2, C (arrL 17 (shV fz ev2)) 61)] [18, 19, 20] mixed hh ?_
  clear hh w; intro w hh
  have hM : Mem [(k1, C (arrL 17 (shV fz ev1)) 61), (k2, C (arrL 17 (shV fz ev2)) 61)] w := (by (repeat (first | exact Mem.nil | refine Mem.consR hh (by assumption) (by simp) ?_ | refine Mem.cons hh.mem (by (repeat (first | exact find_head | apply find_tail)); done) ?_ | fail)); done)
  refine d_take (i := 0) hl rfl (by kernel_rfl) (by kernel_rfl) (by kernel_rfl) (by kernel_rfl) (by kernel_rfl) rfl trivial (fun _ _ _ h => h) hM (fun w hC => r_move hl rfl) rfl ?_
  clear hl a; intro a hl
  refine d_take (i := 1) hl rfl (by kernel_rfl) (by kernel_rfl) (by kernel_rfl) (by kernel_rfl) (by kernel_rfl) rfl trivial (fun _ _ _ h => h) hM (fun w hC => r_nilCheck hl rfl) rfl ?_
  clear hl a; intro a hl
  refine d_take (i := 2) hl rfl (by kernel_rfl) (by kernel_rfl) (by kernel_rfl) (by kernel_rfl) (by kernel_rfl) rfl trivial (fun _ _ _ h => h) hM (fun w hC => r_field hl rfl fld61_0) rfl ?_
  clear hl a; intro a hl
  refine d_take (i := 3) hl rfl (by kernel_rfl) (by kernel_rfl) (by kernel_rfl) (by kernel_rfl) (by kernel_rfl) rfl trivial (fun _ _ _ h => h) hM (fun w hC => r_loadCA hl rfl agg50 hC (by repeat (first | exact find_head | apply find_tail)) (by exact sh7_fl) (by exact arrL_length _ _)) rfl ?_
  clear hl a; intro a hl
  refine d_take (i := 4) hl rfl (by kernel_rfl) (by kernel_rfl) (by kernel_rfl) (by kernel_rfl) (by kernel_rfl) rfl trivial (fun _ _ _ h => h) hM (fun w hC => r_move hl rfl) rfl ?_
  clear hl a; intro a hl
  refine d_take (i := 5) hl rfl (by kernel_rfl) (by kernel_rfl) (by kernel_rfl) (by kernel_rfl) (by kernel_rfl) rfl trivial (fun _ _ _ h => h) hM (fun w hC => r_nilCheck hl rfl) rfl ?_
  clear hl a; intro a hl
  refine d_take (i := 6) hl rfl (by kernel_rfl) (by kernel_rfl) (by kernel_rfl) (by kernel_rfl) (by kernel_rfl) rfl trivial (fun _ _ _ h => h) hM (fun w hC => r_field hl rfl fld61_0) rfl ?_
  clear hl a; intro a hl
  refine d_take (i := 7) hl rfl (by kernel_rfl) (by kernel_rfl) (by kernel_rfl) (by kernel_rfl) (by kernel_rfl) rfl trivial (fun _ _ _ h => h) hM (fun w hC => r_loadCA hl rfl agg50 hC (by repeat (first | exact find_head | apply find_tail)) (by exact sh7_fl) (by exact arrL_length _ _)) rfl ?_
  clear hl a; intro a hl
  refine d_take (i := 8) hl rfl (by kernel_rfl) (by kernel_rfl) (by kernel_rfl) (by kernel_rfl) (by kernel_rfl) rfl trivial (fun _ _ _ h => h) hM (fun w hC => r_eqlSame hl rfl rfl eqf50 shp50 (unl64 _) (fit64 hfz)) rfl ?_
  clear hl a; intro a hl
  refine d_take (i := 9) hl rfl (by kernel_rfl) (by kernel_rfl) (by kernel_rfl) (by kernel_rfl) (by kernel_rfl) rfl trivial (fun _ _ _ h => h) hM (fun w hC => r_move hl rfl) rfl ?_
  clear hl a; intro a hl
  refine d_take (i := 10) hl rfl (by kernel_rfl) (by kernel_rfl) (by kernel_rfl) (by kernel_rfl) (by kernel_rfl) rfl ⟨_, _, rfl, rfl, rfl⟩ (fun _ _ _ h => h) hM (fun w hC => r_move hl rfl) rfl ?_
  clear hl a; intro a hl
  refine d_take (i := 11) hl rfl (by kernel_rfl) (by kernel_rfl) (by kernel_rfl) (by kernel_rfl) (by kernel_rfl) rfl ⟨_, _, rfl, rfl, rfl⟩ (fun _ _ _ h => h) hM (fun w hC => r_nilCheck hl rfl) rfl ?_
  clear hl a; intro a hl
  refine d_take (i := 12) hl rfl (by kernel_rfl) (by kernel_rfl) (by kernel_rfl) (by kernel_rfl) (by kernel_rfl) rfl ⟨_, _, rfl, rfl, rfl⟩ (fun _ _ _ h => h) hM (fun w hC => r_field hl rfl fld61_1) rfl ?_
  clear hl a; intro a hl
  refine d_take (i := 13) hl rfl (by kernel_rfl) (by kernel_rfl) (by kernel_rfl) (by kernel_rfl) (by kernel_rfl) rfl ⟨_, _, rfl, rfl, rfl⟩ (fun _ _ _ h => h) hM (fun w hC => r_loadC hl rfl one59 hC (by repeat (first | exact find_head | apply find_tail)) (by first | exact sh7_ed | rfl)) rfl ?_
  clear hl a; intro a hl
  rw [hp1] at hl
  refine d_take (i := 14) hl rfl (by kernel_rfl) (by kernel_rfl) (by kernel_rfl) (by kernel_rfl) (by kernel_rfl) rfl ⟨_, _, rfl, rfl, rfl⟩ (fun _ _ _ h => h) hM (fun w hC => r_move hl rfl) rfl ?_
  clear hl a; intro a hl
  refine d_take (i := 15) hl rfl (by kernel_rfl) (by kernel_rfl) (by kernel_rfl) (by kernel_rfl) (by kernel_rfl) rfl ⟨_, _, rfl, rfl, rfl⟩ (fun _ _ _ h => h) hM (fun w hC => r_nilCheck hl rfl) rfl ?_
  clear hl a; intro a hl
  refine d_take (i := 16) hl rfl (by kernel_rfl) (by kernel_rfl) (by kernel_rfl) (by kernel_rfl) (by kernel_rfl) rfl ⟨_, _, rfl, rfl, rfl⟩ (fun _ _ _ h => h) hM (fun w hC => r_field hl rfl fld61_1) rfl ?_
  clear hl a; intro a hl
  refine d_take (i := 17) hl rfl (by kernel_rfl) (by kernel_rfl) (by kernel_rfl) (by kernel_rfl) (by kernel_rfl) rfl ⟨_, _, rfl, rfl, rfl⟩ (fun _ _ _ h => h) hM (fun w hC => r_loadC hl rfl one59 hC (by repeat (first | exact find_head | apply find_tail)) (by first | exact sh7_ed | rfl)) rfl ?_
  clear hl a; intro a hl
  rw [hp2] at hl
  refine d_one (i := 18) (by kernel_rfl) rfl ?_
  try clear hM
  refine id (w_call hl hh rfl ⟨_, _, rfl, rfl, rfl⟩ rfl cal57 rfl (eqE_spec es hel hfit p1 p2 c1 c2 E1 E2 (hp1 ▸ hR1) (hp2 ▸ hR2)) (by repeat (first | exact keeps_nil | apply keeps_cons (by repeat (first | exact find_head | apply find_tail)) (by first  | rfl) | exact keeps_self | apply keeps_mv)) ⟨mem_keep hh (fun b o m => hpre.1 b o (.tail _ m)), mem_keep hh (fun b o m => hpre.2 b o (.tail _ m))⟩ ?_)
  clear hl hh a w; intro vc Fc a w hR hl hh
  obtain ⟨rfl, rfl⟩ := hR
  try simp only [List.cons_append, List.nil_append] at hh
  refine d_step (fun h => absurd h (by decide)) ?_
  refine d_takeL (i := 19) hl rfl (by kernel_rfl) (by kernel_rfl) (by kernel_rfl) (by kernel_rfl) (by kernel_rfl) rfl trivial (fun _ _ _ h => h) (fun w => r_pickT hl rfl rfl) rfl ?_
  clear hl a; intro a hl
  refine d_takeL (i := 20) hl rfl (by kernel_rfl) (by kernel_rfl) (by kernel_rfl) (by kernel_rfl) (by kernel_rfl) rfl trivial (fun _ _ _ h => h) (fun w => r_assign hl rfl) rfl ?_
  clear hl a; intro a hl
  refine d_done (by kernel_rfl) ?_
  try clear hM
  have hl2 := hl.add (t := 4) (hl.nil) rfl; clear hl; have hl := hl2; clear hl2
  refine then_normal ?_
  refine wp_ret ?_
  refine f_ret1 (F' := []) hl hh rfl rfl (by repeat (first | exact keeps_nil | apply keeps_cons (by repeat (first | exact find_head | apply find_tail)) (by first  | rfl) | exact keeps_self | apply keeps_mv)) ?_
  exact ⟨rfl, rfl⟩
end Go.Proofs.Qxb6500911aDoor

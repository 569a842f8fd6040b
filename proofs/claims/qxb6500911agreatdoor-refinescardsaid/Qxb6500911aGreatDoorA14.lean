import Derived.Test.Qxb6500911aGreatDoorA13
namespace Go.Proofs.Qxb6500911aGreatDoor
open Go.Eng
set_option linter.unusedVariables false
set_option linter.unusedSimpArgs false
theorem zero75 : zeroOk Tryz.prog 75 (.agg #[(.int .u64 0), (.int .u64 0), (.int .u64 0), (.int .u64 0)]) := by unfold zeroOk; kernel_rfl
theorem bld75 : buildOk Tryz.prog 75 [(0, 1), (1, 1), (2, 1), (3, 1)] = true := by kernel_rfl
theorem fld94_0 : fieldOk Tryz.prog 94 0 0 = true := by kernel_rfl
theorem one25 : oneOk Tryz.prog 25 = true := by kernel_rfl
theorem cal25 : callable Tryz.prog 25 = true := by kernel_rfl
theorem fld94_3 : fieldOk Tryz.prog 94 3 18 = true := by kernel_rfl
theorem arr92 : arrOk Tryz.prog 92 4 32 = true := by kernel_rfl
theorem agg160 : aggOk Tryz.prog 160 4 = true := by kernel_rfl
theorem cal76 : callable Tryz.prog 76 = true := by kernel_rfl
theorem cal91 : callable Tryz.prog 91 = true := by kernel_rfl
theorem cal56 : callable Tryz.prog 56 = true := by kernel_rfl
/-! ## the whole system -/
structure Gs where
  ep : Nat → Int
  flr : Nat → Int
  ws : Nat → List Wt
  bx : Nat → List Ms
  tb : Tab
structure Mm where
  bm : Nat
  bt : Nat
  fg : Nat → Value
  fm : Nat → Value
  ft : Nat → Value
  Eg : Nat → List (Nat × Obj)
  Em : Nat → List (Nat × Obj)
  Et : Nat → List (Nat × Obj)
structure SysF (g : Gs) (M : Mm) : Prop where
  gr : GrF g.ep g.flr g.ws M.bm M.bt M.fg M.Eg
  mc : MacF g.bx M.fm M.Em
  tb : TabF g.tb M.ft M.Et
def sysL (bg : Nat) (M : Mm) : List (Nat × Obj) := grL bg M.fg M.Eg ++ (mcL M.bm M.fm M.Em ++ tbL M.bt M.ft M.Et)
theorem mem_app {A B : List (Nat × Obj)} {w : World} (h : Mem (A ++ B) w) : Mem A w ∧ Mem B w := ⟨fun b o m => h b o (List.mem_append_left _ m), fun b o m => h b o (List.mem_append_right _ m)⟩
structure Up where
  k : Int
  w : Nat
  e : Int
  s : BitVec 16
structure UpOk (Q : Int) (u : Up) : Prop where
  w : u.w < 16
  e : 0 ≤ u.e ∧ u.e ≤ Q
  k : (u.k = 3 ∧ u.s = 0#16) ∨ ((u.k = 1 ∨ u.k = 2) ∧ u.s ≠ 0#16)
  s : u.s.getLsbD u.w = false
def upMs (fr : Nat) (u : Up) : Ms := ⟨fr, u.w % 4, u.k, (u.w : Int), u.e, mi u.s, 0⟩
structure GI (B Q : Int) (g : Gs) : Prop where
  ti : TI g.tb
  ok : ∀ t, t < 16 → WsOk (g.ws t) (g.flr t)
  nb : ∀ t, t < 16 → ∀ x, x ∈ g.ws t → (∀ h, -B ≤ x.net h ∧ x.net h ≤ B) ∧ x.e ≤ Q
  fb : ∀ t, t < 16 → 0 ≤ g.flr t ∧ g.flr t ≤ Q + 1
  ep : EpI Q g.ep
  b32 : ∀ b, b < 16 → (g.bx b).length ≤ 32
  ms : ∀ b, b < 16 → ∀ m, m ∈ g.bx b → ∃ u, UpOk Q u ∧ u.w % 4 = b % 4 ∧ m = upMs (b / 4) u
structure BQ (B Q : Int) : Prop where
  b : 0 ≤ B ∧ B ≤ 100000000000
  q : 0 ≤ Q ∧ Q ≤ 90000000
theorem srt_len {Q : Int} : ∀ {l : List Wt} {f : Int}, l.Pairwise (fun x y => x.e < y.e) → (∀ x, x ∈ l → f ≤ x.e ∧ x.e ≤ Q) → f ≤ Q + 1 → (l.length : Int) ≤ Q + 1 - f
  | [], f, _, _, h => by simp; omega
  | x :: l, f, hs, hb, h => by
    have h1 := hb x (.head _)
    have h2 := srt_len (Q := Q) (l := l) (f := x.e + 1) (List.pairwise_cons.1 hs).2 (fun y hy => by
      have h3 : x.e < y.e := (List.pairwise_cons.1 hs).1 y hy; have h4 := hb y (.tail _ hy); omega) (by omega)
    rw [List.length_cons]; omega
theorem GI.wb {B Q : Int} {g : Gs} (h : GI B Q g) (hq : BQ B Q) {t : Nat} (ht : t < 16) : WB B (g.ws t) := by
  refine ⟨fun x hx => (h.nb t ht x hx).1, ?_⟩
  have := srt_len (Q := Q) (f := 0) (h.ok t ht).srt (fun x hx => by have := (h.ok t ht).low x hx; have := h.fb t ht; have := (h.nb t ht x hx).2; omega) (by have := hq.q; omega)
  have := hq.q
  omega
theorem nt_bd {B : Int} {l : List Wt} (hB : 0 ≤ B) (h : ∀ x, x ∈ l → ∀ h, -B ≤ x.net h ∧ x.net h ≤ B) (e : Int) (k : Nat) : -B ≤ nt l e k ∧ nt l e k ≤ B := by
  induction l with
  | nil => simp only [nt]; omega
  | cons x l ih =>
    rw [nt]
    split
    · exact h x (.head _) k
    · exact ih (fun y hy => h y (.tail _ hy))
theorem nt_of_mem {l : List Wt} {x : Wt} (hs : l.Pairwise (fun x y => x.e < y.e)) (hx : x ∈ l) (h : Nat) : nt l x.e h = x.net h := by
  obtain ⟨i, hi⟩ := List.mem_iff_getElem?.1 hx
  exact nt_at hs hi h
def updW (f : Nat → List Wt) (i : Nat) (v : List Wt) : Nat → List Wt := fun j => if j = i then v else f j
def applyG (g : Gs) (u : Up) : Gs := { g with flr := updI g.flr u.w (apF u.k (g.flr u.w) u.e), ws := updW g.ws u.w (apL u.k (g.flr u.w) (g.ws u.w) u.e u.s) }
def routeG (g : Gs) (at_ : Nat) (u : Up) : Gs := if u.w % 4 = at_ then applyG g u else { g with bx := bxU g.bx (at_ * 4 + u.w % 4) (g.bx (at_ * 4 + u.w % 4) ++ [upMs at_ u]) }
theorem ap_ok {k fz e Q B : Int} {l : List Wt} {s : BitVec 16} (h : WsOk l fz) (hb : ∀ x, x ∈ l → (∀ h, -B ≤ x.net h ∧ x.net h ≤ B) ∧ x.e ≤ Q) (hB : 0 ≤ B) (he : e ≤ Q) : WsOk (apL k fz l e s) (apF k fz e) ∧ ∀ x, x ∈ apL k fz l e s → (∀ h, -(B + 1) ≤ x.net h ∧ x.net h ≤ B + 1) ∧ x.e ≤ Q := by
  have adj : ∀ d, (d = 1 ∨ d = -1) → WsOk (adjS fz l e s d) fz ∧ ∀ x, x ∈ adjS fz l e s d → (∀ h, -(B + 1) ≤ x.net h ∧ x.net h ≤ B + 1) ∧ x.e ≤ Q := by
    intro d hd
    unfold adjS
    split
    · exact ⟨h, fun x hx => ⟨fun k => by have := (hb x hx).1 k; omega, (hb x hx).2⟩⟩
    · have h1 := adj_ok (e := e) (c := d) (s := s) (by omega) h
      refine ⟨h1, fun x hx => ⟨fun k => ?_, ?_⟩⟩
      · rw [← nt_of_mem h1.srt hx, adj_nt h]
        have := nt_bd hB (fun x hx => (hb x hx).1) x.e k
        split <;> omega
      · rcases adj_mem hx with h2 | h2
        · omega
        · exact (hb x h2).2
  unfold apL apF
  by_cases k1 : k = 1
  · rw [if_pos k1, if_neg (by omega)]; exact adj 1 (.inl rfl)
  · rw [if_neg k1]
    by_cases k2 : k = 2
    · rw [if_pos k2, if_neg (by omega)]; exact adj (-1) (.inr rfl)
    · rw [if_neg k2]
      by_cases k3 : k = 3 ∧ fz ≤ e
      · rw [if_pos k3, if_pos k3]
        exact ⟨end_ok h, fun x hx => ⟨fun k => by have := (hb x (List.mem_filter.1 hx).1).1 k; omega, (hb x (List.mem_filter.1 hx).1).2⟩⟩
      · rw [if_neg k3, if_neg k3]
        exact ⟨h, fun x hx => ⟨fun k => by have := (hb x hx).1 k; omega, (hb x hx).2⟩⟩
theorem GI.mono {B B' Q Q' : Int} {g : Gs} (h : GI B Q g) (h1 : B ≤ B') (h2 : Q ≤ Q') : GI B' Q' g :=
  ⟨h.ti, h.ok, fun t ht x hx => ⟨fun k => by have := (h.nb t ht x hx).1 k; omega, by have := (h.nb t ht x hx).2; omega⟩, fun t ht => by have := h.fb t ht; omega, h.ep.mono h2, h.b32, fun b hb m hm => by
    obtain ⟨u, hu, h3, h4⟩ := h.ms b hb m hm
    exact ⟨u, ⟨hu.w, by have := hu.e; omega, hu.k, hu.s⟩, h3, h4⟩⟩
theorem GI.apply {B Q : Int} {g : Gs} {u : Up} (h : GI B Q g) (hq : BQ B Q) (hw : u.w < 16) (he : 0 ≤ u.e ∧ u.e ≤ Q) : GI (B + 1) Q (applyG g u) := by
  have h0 := ap_ok (k := u.k) (e := u.e) (s := u.s) (h.ok u.w hw) (h.nb u.w hw) hq.b.1 he.2
  have h' := h.mono (show B ≤ B + 1 by omega) (Int.le_refl Q)
  refine ⟨h.ti, fun t ht => ?_, fun t ht x hx => ?_, fun t ht => ?_, h.ep, h.b32, h.ms⟩
  · simp only [applyG, updI, updW]
    by_cases c : t = u.w
    · rw [if_pos c, if_pos c]; exact h0.1
    · rw [if_neg c, if_neg c]; exact h.ok t ht
  · simp only [applyG, updW] at hx
    by_cases c : t = u.w
    · rw [if_pos c] at hx; exact h0.2 x hx
    · rw [if_neg c] at hx; exact h'.nb t ht x hx
  · simp only [applyG, updI]
    by_cases c : t = u.w
    · rw [if_pos c]
      have := h.fb u.w hw
      unfold apF
      split <;> omega
    · rw [if_neg c]; exact h.fb t ht
theorem GI.route {B Q : Int} {g : Gs} {a : Nat} {u : Up} (h : GI B Q g) (hq : BQ B Q) (ha : a < 4) (hu : UpOk Q u) (hr : u.w % 4 ≠ a → (g.bx (a * 4 + u.w % 4)).length < 32) : GI (B + 1) Q (routeG g a u) := by
  unfold routeG
  split
  · exact h.apply hq hu.w hu.e
  · rename_i c
    have h' := h.mono (show B ≤ B + 1 by omega) (Int.le_refl Q)
    refine ⟨h.ti, h.ok, h'.nb, h.fb, h.ep, fun b hb => ?_, fun b hb m hm => ?_⟩
    · simp only [bxU]
      split
      · rw [List.length_append]; have := hr c; simp only [List.length_cons, List.length_nil]; omega
      · exact h.b32 b hb
    · simp only [bxU] at hm
      split at hm
      · rename_i c2
        rcases List.mem_append.1 hm with hm | hm
        · rw [← c2] at hm; exact h.ms b hb m hm
        · simp only [List.mem_singleton] at hm
          refine ⟨u, hu, by omega, ?_⟩
          rw [hm]; congr 1; omega
      · exact h.ms b hb m hm
/-- an update of one task's waits, in the whole graph -/
theorem GrF.upd {ep flr : Nat → Int} {ws : Nat → List Wt} {bm bt : Nat} {f f' : Nat → Value} {E : Nat → List (Nat × Obj)} {q : Nat} {fz : Int} {l : List Wt} {E' : List (Nat × Obj)} (h : GrF ep flr ws bm bt f E) (hq : q < 16) (h1 : ShR f' (q % 4) q fz l E') (h2 : ∀ j, j ≠ 34 + 32 * (q % 4) + q → j ≠ 18 + 32 * (q % 4) + q → f' j = f j) : GrF ep (updI flr q fz) (updW ws q l) bm bt f' (updE E (16 * (q % 4) + q) E') := by
  refine ⟨by rw [h2 _ (by omega) (by omega)]; exact h.p0, by rw [h2 _ (by omega) (by omega)]; exact h.p1, fun t ht => by rw [h2 _ (by omega) (by omega)]; exact h.ep t ht, fun c q' hc hq' => ?_⟩
  by_cases c1 : q' = q ∧ c = q % 4
  · obtain ⟨rfl, rfl⟩ := c1
    rw [updE_self]
    unfold flK wsK updI updW
    simp only [if_true]
    exact h1
  · rw [updE_ne _ _ (by omega)]
    have e1 : flK (updI flr q fz) c q' = flK flr c q' := by
      unfold flK updI
      by_cases c2 : q' = q
      · subst c2; rw [if_neg (by omega), if_neg (by omega)]
      · simp only [if_neg c2]
    have e2 : wsK (updW ws q l) c q' = wsK ws c q' := by
      unfold wsK updW
      by_cases c2 : q' = q
      · subst c2; rw [if_neg (by omega), if_neg (by omega)]
      · simp only [if_neg c2]
    rw [e1, e2]
    have := h.sh c q' hc hq'
    exact ⟨by rw [h2 _ (by omega) (by omega)]; exact this.flr, by rw [h2 _ (by omega) (by omega)]; exact this.row⟩
theorem GrF.at_ {ep flr : Nat → Int} {ws : Nat → List Wt} {bm bt : Nat} {f : Nat → Value} {E : Nat → List (Nat × Obj)} (h : GrF ep flr ws bm bt f E) {q : Nat} (hq : q < 16) : ShR f (q % 4) q (flr q) (ws q) (E (16 * (q % 4) + q)) := by
  have := h.sh (q % 4) q (by omega) hq
  unfold flK wsK at this
  rw [if_pos rfl, if_pos rfl] at this
  exact this
/-- a shard's contract, for the whole graph -/
theorem gr_lift {P : Program} {fid : FuncId} {args : Array Value} {tT : TypeId} {tf : Nat × Nat} {bg q : Nat} {ep flr : Nat → Int} {ws : Nat → List Wt} {bm bt : Nat} {f : Nat → Value} {E : Nat → List (Nat × Obj)} {fz : Int} {l : List Wt} (h : GrF ep flr ws bm bt f E) (hq : q < 16)
    (hs : SpK P fid args (PreT tT tf ((bg, C (arrL 146 f) 94) :: E (16 * (q % 4) + q))) ((bg, C (arrL 146 f) 94) :: E (16 * (q % 4) + q)) (fun v F' => v = .tuple #[] ∧ ∃ f' E', F' = (bg, C (arrL 146 f') 94) :: E' ∧ ShR f' (q % 4) q fz l E' ∧ ∀ j, j ≠ 34 + 32 * (q % 4) + q → j ≠ 18 + 32 * (q % 4) + q → f' j = f j)) :
    SpK P fid args (PreT tT tf (grL bg f E)) (grL bg f E) (fun v F' => v = .tuple #[] ∧ ∃ f' E', F' = grL bg f' E' ∧ GrF ep (updI flr q fz) (updW ws q l) bm bt f' E') := by
  have hk : 16 * (q % 4) + q < 64 := by omega
  refine spk_lift (G := famX E (16 * (q % 4) + q) 64) (spk_weak0 hs (fun w hp => ⟨hp.1, fun x hx => hp.2 x ?_⟩)) ⟨List.Perm.cons _ (fam_perm hk)⟩ ?_
  · rcases List.mem_cons.1 hx with rfl | hx
    · exact .head _
    · exact .tail _ (mem_fam hk hx)
  · rintro v F' ⟨rfl, f', E', rfl, h1, h2⟩
    refine ⟨_, [], ⟨rfl, f', updE E (16 * (q % 4) + q) E', rfl, h.upd hq h1 h2⟩, ?_⟩
    rw [List.append_nil]
    exact List.Perm.cons _ (fam_upd hk E').symm
def roomP (bx : Nat → List Ms) (a : Nat) : Nat → Bool
  | 0 => true
  | n + 1 => roomP bx a n && (n == a || decide ((bx (a * 4 + n)).length ≤ 24))
theorem roomP_F {bx : Nat → List Ms} {a i : Nat} (h : i ≠ a) (h2 : 24 < (bx (a * 4 + i)).length) : ∀ {n}, i < n → roomP bx a n = false
  | 0, hn => absurd hn (by omega)
  | n + 1, hn => by
    rw [roomP]
    by_cases c : n = i
    · subst c
      rw [show (n == a) = false by simpa using h, decide_eq_false (by omega)]; simp
    · rw [roomP_F h h2 (show i < n by omega), Bool.false_and]
theorem roomP_T {bx : Nat → List Ms} {a i : Nat} (h : roomP bx a i = true) (h2 : i = a ∨ (bx (a * 4 + i)).length ≤ 24) : roomP bx a (i + 1) = true := by
  rw [roomP, h, Bool.true_and, Bool.or_eq_true, beq_iff_eq, decide_eq_true_eq]; exact h2
theorem roomP_spec {bx : Nat → List Ms} {a : Nat} : ∀ {n}, roomP bx a n = true ↔ ∀ i, i < n → i ≠ a → (bx (a * 4 + i)).length ≤ 24
  | 0 => ⟨fun _ i hi => absurd hi (by omega), fun _ => rfl⟩
  | n + 1 => by
    rw [roomP, Bool.and_eq_true, roomP_spec (n := n), Bool.or_eq_true, beq_iff_eq, decide_eq_true_eq]
    constructor
    · intro h i hi hn
      by_cases c : i = n
      · subst c; rcases h.2 with h2 | h2
        · exact absurd h2 hn
        · exact h2
      · exact h.1 i (by omega) hn
    · intro h
      refine ⟨fun i hi hn => h i (by omega) hn, ?_⟩
      by_cases c : n = a
      · exact .inl c
      · exact .inr (h n (by omega) c)


set_option maxHeartbeats 1000000 in
theorem words_spec (u : Up) (hw : u.w < 16) : Sp Tryz.prog 91 #[.agg ⟨[.int .u32 u.k, .int .i64 (u.w : Int), .int .u64 u.e, .int .u16 (mi u.s)]⟩] [] (fun v F' => v = .agg ⟨[.int .u64 (u.w : Int), .int .u64 u.e, .int .u64 (mi u.s), .int .u64 0]⟩ ∧ F' = []) := by
  refine f_enter (args := [.agg ⟨[.int .u32 u.k, .int .i64 (u.w : Int), .int .u64 u.e, .int .u16 (mi u.s)]⟩]) Tryz.func91 rfl Tryz.ntmps91 rfl ?_
  intro w0 w a hpre hl hh
  have hm := mi_rng u.s
  simp only [slotsFrom, Nat.reduceAdd] at hl
  refine c_seq ?_
  refine c_region ?_
  refine wl (w_box hl hh rfl trivial rfl rfl ?_)
  clear hl hh a w; intro k1 a w hl hh
  refine wl (w_alloc hl hh rfl trivial zero75 rfl ?_)
  clear hl hh a w; intro k2 a w hl hh
  refine w_nil ?_
  have hl2 := hl.add (t := 1) (hl.add (t := 2) (hl.nil) rfl) rfl; clear hl; have hl := hl2; clear hl2
  refine then_normal ?_
  refine c_seq ?_
  refine c_region ?_
  refine wl (wl_val hl rfl trivial (r_field hl rfl fld160_1) ?_)
  clear hl a; intro a hl
  refine wl (w_load hl hh rfl trivial one57 rfl (by repeat (first | exact find_head | apply find_tail)) (by first | rfl) ?_)
  clear hl a; intro a hl
  first | refine wl (wl_val hl rfl trivial (r_conv hl rfl Tryz.underlying57 Tryz.underlying41 (by simp only [Fits]; omega)) ?_) | refine wl (wl_val hl rfl trivial (r_convM wm_u64 hl rfl Tryz.underlying57 Tryz.underlying41) ?_)
  clear hl a; intro a hl
  refine wl (wl_val hl rfl trivial (r_field hl rfl fld160_2) ?_)
  clear hl a; intro a hl
  refine wl (w_load hl hh rfl trivial one42 rfl (by repeat (first | exact find_head | apply find_tail)) (by first | rfl) ?_)
  clear hl a; intro a hl
  refine wl (wl_val hl rfl trivial (r_field hl rfl fld160_3) ?_)
  clear hl a; intro a hl
  refine wl (w_load hl hh rfl trivial one37 rfl (by repeat (first | exact find_head | apply find_tail)) (by first | rfl) ?_)
  clear hl a; intro a hl
  first | refine wl (wl_val hl rfl trivial (r_conv hl rfl Tryz.underlying37 Tryz.underlying41 (by simp only [Fits]; omega)) ?_) | refine wl (wl_val hl rfl trivial (r_convM wm_u64 hl rfl Tryz.underlying37 Tryz.underlying41) ?_)
  clear hl a; intro a hl
  refine wl (wl_val hl rfl trivial (r_build hl rfl zero75 bld75 (by simp only [fillL, setL, List.getElem?_cons_zero, List.getElem?_cons_succ, Value.cells, List.take_zero, List.take_succ_cons, List.take_nil, List.drop_zero, List.drop_succ_cons, List.drop_nil, List.length_cons, List.length_nil, List.cons_append, List.nil_append, List.append_nil, Nat.zero_add, Nat.add_zero, Nat.reduceAdd, Nat.reduceBEq, Nat.reduceEqDiff, Nat.ble, BEq.rfl, Bool.and_true, Bool.and_self, cond_true, beq_self_eq_true]; rfl)) ?_)
  clear hl a; intro a hl
  refine wl (w_storeA hl hh trivial agg75 rfl rfl (by repeat (first | exact find_head | apply find_tail)) (by first | rfl | (simp; done)) (by first | (simp; done) | (simp; omega)) (by first | rfl | (simp; done)) (by first | (simp only [setL, List.getElem?_cons_zero, List.getElem?_cons_succ, Value.cells, List.take_zero, List.take_succ_cons, List.take_nil, List.drop_zero, List.drop_succ_cons, List.drop_nil, List.length_cons, List.length_nil, List.cons_append, List.nil_append, List.append_nil, Nat.zero_add, Nat.add_zero, Nat.reduceAdd, Nat.reduceBEq, Nat.reduceEqDiff, Nat.ble, BEq.rfl, Bool.and_true, Bool.and_self, cond_true, beq_self_eq_true]; rfl)) ?_)
  clear hh w; intro w hh
  refine w_nil ?_
  have hl2 := hl.add (t := 2) (hl.nil) rfl; clear hl; have hl := hl2; clear hl2
  refine then_normal ?_
  refine wp_ret ?_
  refine f_retC (F' := []) hl hh rfl rfl agg75 (by repeat (first | exact find_head | apply find_tail)) (by first | rfl | exact arrL_length _ _ | (simp; done)) (by repeat (first | exact keeps_nil | apply keeps_cons (by repeat (first | exact find_head | apply find_tail)) (by first  | rfl) | exact keeps_self | apply keeps_mv)) ?_
  exact ⟨rfl, rfl⟩

set_option maxHeartbeats 1000000 in
theorem roomFor_spec {g : Gs} {M : Mm} (hS : SysF g M) (bg : Nat) (h32 : ∀ b, b < 16 → (g.bx b).length ≤ 32) (at_ : Nat) (ha : at_ < 4) : SpK Tryz.prog 43 #[.pointer (some ⟨bg, 0, none⟩), .int .i64 (at_ : Int)] (Mem (sysL bg M)) [] (fun v F' => v = .bool (roomP g.bx at_ 4) ∧ F' = []) := by
  refine f_enter (args := [.pointer (some ⟨bg, 0, none⟩), .int .i64 (at_ : Int)]) Tryz.func43 rfl Tryz.ntmps43 rfl ?_
  intro w0 w a hpre hl hh
  have hmG := hpre _ _ (List.mem_append_left _ (List.mem_cons_self ..))
  have hmM := (mem_app (mem_app hpre).2).1
  simp only [slotsFrom, Nat.reduceAdd] at hl
  refine c_seq ?_
  refine c_region ?_
  refine wl (wl_val hl rfl trivial (r_assign hl rfl) ?_)
  clear hl a; intro a hl
  refine w_nil ?_
  have hl2 := hl.add (t := 0) (hl.add (t := 1) (hl.nil) rfl) rfl; clear hl; have hl := hl2; clear hl2
  refine then_normal ?_
  refine c_seq ?_
  refine c_seq ?_
  refine c_region ?_
  refine wl (wl_val hl rfl trivial (r_assign hl rfl) ?_)
  clear hl a; intro a hl
  refine w_nil ?_
  have hl2 := hl.add (t := 0) (hl.add (t := 1) (hl.add (t := 5) (hl.nil) rfl) rfl) rfl; clear hl; have hl := hl2; clear hl2
  refine then_normal ?_
  refine wp_block ?_
  obtain ⟨KS0, hKS0, hk⟩ := (hl.add (t := 0) (hl.add (t := 1) (hl.nil) rfl) rfl).name
  obtain ⟨HS0, hHS0, hh2⟩ := hh.name (keeps_nil)
  refine c_loop (α := Nat) (fun i => 4 - i) (fun i a w => (i ≤ 4 ∧ roomP g.bx at_ i = true) ∧ Sl 23 ([(5, .int .i64 (i : Int))] ++ KS0) a ∧ Has _ w0 ([] ++ HS0) w) 0 ⟨⟨by omega, rfl⟩, hl.addE (t := 5) (hk) rfl (by first | rfl), hh2⟩ ?_
  clear hk hh2 hl hh a w
  intro i a w hI
  obtain ⟨⟨hi, hq⟩, hl, hh⟩ := hI
  subst hKS0; subst hHS0
  simp only [List.cons_append, List.nil_append, List.append_nil] at hl hh
  have hb9 : i < 4 → (g.bx (at_ * 4 + i)).length ≤ 32 := fun h => h32 _ (by omega)
  refine c_seq ?_
  refine c_seq ?_
  refine c_region ?_
  refine wl (wl_val hl rfl trivial (r_move hl rfl) ?_)
  clear hl a; intro a hl
  refine wl (wl_val hl rfl trivial (r_lss hl rfl rfl) ?_)
  clear hl a; intro a hl
  refine w_nil ?_
  have hl2 := hl.add (t := 0) (hl.add (t := 1) (hl.add (t := 5) (hl.add (t := 7) (hl.nil) rfl) rfl) rfl) rfl; clear hl; have hl := hl2; clear hl2
  refine then_normal ?_
  refine c_cond hl rfl ?_ ?_
  · intro hc0
    try simp only [decide_eq_true_eq, decide_eq_false_iff_not, Bool.not_eq_true', Bool.not_eq_false', Bool.not_eq_true, Bool.not_eq_false, Bool.and_eq_true, Bool.or_eq_true, Bool.and_eq_false_iff, Bool.or_eq_false_iff, Bool.not_not, ne_eq, Int.not_lt, Int.not_le, Decidable.not_not, beq_iff_eq, bne_iff_ne] at hc0
    have hb8 := hb9 (by omega)
    refine wp_skip ?_
    refine then_normal ?_
    refine c_seq ?_
    refine wp_block ?_
    refine c_seq ?_
    refine c_region ?_
    refine wl (wl_val hl rfl trivial (r_move hl rfl) ?_)
    clear hl a; intro a hl
    refine wl (wl_val hl rfl trivial (r_move hl rfl) ?_)
    clear hl a; intro a hl
    refine wl (wl_val hl rfl trivial (r_neq hl rfl rfl) ?_)
    clear hl a; intro a hl
    refine wl (wl_val hl rfl trivial (r_move hl rfl) ?_)
    clear hl a; intro a hl
    refine sl_split (t := 13) hl rfl ?_ ?_
    · intro hg1; clear hl; intro hl
      try simp only [decide_eq_true_eq, decide_eq_false_iff_not, Bool.not_eq_true', Bool.not_eq_false', Bool.not_eq_true, Bool.not_eq_false, Bool.and_eq_true, Bool.or_eq_true, Bool.and_eq_false_iff, Bool.or_eq_false_iff, Bool.not_not, ne_eq, Int.not_lt, Int.not_le, Decidable.not_not, beq_iff_eq, bne_iff_ne] at hg1
      refine wl (wl_val hl rfl ⟨_, _, rfl, rfl, rfl⟩ (r_move hl rfl) ?_)
      clear hl a; intro a hl
      refine wl (wl_val hl rfl ⟨_, _, rfl, rfl, rfl⟩ (r_nilCheck hl rfl) ?_)
      clear hl a; intro a hl
      refine wl (wl_val hl rfl ⟨_, _, rfl, rfl, rfl⟩ (r_field hl rfl fld94_0) ?_)
      clear hl a; intro a hl
      first | refine wl (w_load hl hh rfl ⟨_, _, rfl, rfl, rfl⟩ one25 rfl (by repeat (first | exact find_head | apply find_tail)) (by first | rfl) ?_) | refine wl (w_loadR hl hh rfl ⟨_, _, rfl, rfl, rfl⟩ one25 rfl hmG (by simp) (fg_p0 hS.gr.p0) ?_)
      clear hl a; intro a hl
      refine wl (wl_val hl rfl ⟨_, _, rfl, rfl, rfl⟩ (r_move hl rfl) ?_)
      clear hl a; intro a hl
      refine wl (wl_val hl rfl ⟨_, _, rfl, rfl, rfl⟩ (r_move hl rfl) ?_)
      clear hl a; intro a hl
      refine wl (w_call hl hh rfl ⟨_, _, rfl, rfl, rfl⟩ rfl cal53 rfl (room_spec hS.mc M.bm h32 at_ i ha (by omega)) (by repeat (first | exact keeps_nil | apply keeps_cons (by repeat (first | exact find_head | apply find_tail)) (by first  | rfl) | exact keeps_self | apply keeps_mv)) (mem_keep hh hmM) ?_)
      clear hl hh a w; intro vc Fc a w hR hl hh
      obtain ⟨rfl, rfl⟩ := hR
      try simp only [List.cons_append, List.nil_append] at hh
      refine wl (wl_val hl rfl ⟨_, _, rfl, rfl, rfl⟩ (r_lss hl rfl rfl) ?_)
      clear hl a; intro a hl
      refine wl (wl_val hl rfl trivial (r_pickT hl rfl rfl) ?_)
      clear hl a; intro a hl
      refine w_nil ?_
      have hl2 := hl.add (t := 0) (hl.add (t := 1) (hl.add (t := 5) (hl.add (t := 22) (hl.nil) rfl) rfl) rfl) rfl; clear hl; have hl := hl2; clear hl2
      refine then_normal ?_
      refine c_cond hl rfl ?_ ?_
      · intro hc1
        try simp only [decide_eq_true_eq, decide_eq_false_iff_not, Bool.not_eq_true', Bool.not_eq_false', Bool.not_eq_true, Bool.not_eq_false, Bool.and_eq_true, Bool.or_eq_true, Bool.and_eq_false_iff, Bool.or_eq_false_iff, Bool.not_not, ne_eq, Int.not_lt, Int.not_le, Decidable.not_not, beq_iff_eq, bne_iff_ne] at hc1
        refine c_seq ?_
        refine c_region ?_
        refine wl (wl_val hl rfl trivial (r_assign hl rfl) ?_)
        clear hl a; intro a hl
        refine w_nil ?_
        have hl2 := hl.add (t := 4) (hl.nil) rfl; clear hl; have hl := hl2; clear hl2
        refine then_normal ?_
        refine wp_ret ?_
        refine blk_ret ?_
        refine then_ret ?_
        refine then_ret ?_
        refine blk_ret ?_
        refine then_ret ?_
        refine f_ret1 (F' := []) hl hh rfl rfl (by repeat (first | exact keeps_nil | apply keeps_cons (by repeat (first | exact find_head | apply find_tail)) (by first  | rfl) | exact keeps_self | apply keeps_mv)) ?_
        exact ⟨congrArg Value.bool (roomP_F (i := i) (by omega) (by omega) (by omega)).symm, rfl⟩
      · intro hc1
        try simp only [decide_eq_true_eq, decide_eq_false_iff_not, Bool.not_eq_true', Bool.not_eq_false', Bool.not_eq_true, Bool.not_eq_false, Bool.and_eq_true, Bool.or_eq_true, Bool.and_eq_false_iff, Bool.or_eq_false_iff, Bool.not_not, ne_eq, Int.not_lt, Int.not_le, Decidable.not_not, beq_iff_eq, bne_iff_ne] at hc1
        refine wp_skip ?_
        refine blk_normal ?_
        refine then_normal ?_
        refine c_region ?_
        refine wl (wl_val hl rfl trivial (r_move hl rfl) ?_)
        clear hl a; intro a hl
        first | refine wl (wl_val hl rfl trivial (r_add hl rfl rfl (by simp only [Fits]; omega)) ?_) | refine wl (wl_val hl rfl trivial (r_addW hl rfl rfl) ?_)
        clear hl a; intro a hl
        refine wl (wl_val hl rfl trivial (r_assign hl rfl) ?_)
        clear hl a; intro a hl
        refine w_nil ?_
        have hl2 := hl.add (t := 0) (hl.add (t := 1) (hl.add (t := 5) (hl.nil) rfl) rfl) rfl; clear hl; have hl := hl2; clear hl2
        refine then_normal ?_
        refine ⟨(i + 1), (by omega), ⟨by omega, roomP_T hq (by omega)⟩, hl.addE (t := 5) (hl.addE (t := 0) (hl.addE (t := 1) (hl.nil) rfl (by first | rfl | (congr 1; omega))) rfl (by first | rfl | (congr 1; omega))) rfl (by first | rfl | (congr 1; omega)), hh.keep (by repeat (first | exact keeps_nil | apply keeps_cons (by repeat (first | exact find_head | apply find_tail)) (by first  | rfl) | exact keeps_self | apply keeps_mv))⟩
    · intro hg1; clear hl; intro hl
      try simp only [decide_eq_true_eq, decide_eq_false_iff_not, Bool.not_eq_true', Bool.not_eq_false', Bool.not_eq_true, Bool.not_eq_false, Bool.and_eq_true, Bool.or_eq_true, Bool.and_eq_false_iff, Bool.or_eq_false_iff, Bool.not_not, ne_eq, Int.not_lt, Int.not_le, Decidable.not_not, beq_iff_eq, bne_iff_ne] at hg1
      refine wl (wl_skip hl rfl ⟨_, _, rfl, rfl, rfl⟩ ?_)
      clear hl a; intro a hl
      refine wl (wl_skip hl rfl ⟨_, _, rfl, rfl, rfl⟩ ?_)
      clear hl a; intro a hl
      refine wl (wl_skip hl rfl ⟨_, _, rfl, rfl, rfl⟩ ?_)
      clear hl a; intro a hl
      refine wl (wl_skip hl rfl ⟨_, _, rfl, rfl, rfl⟩ ?_)
      clear hl a; intro a hl
      refine wl (wl_skip hl rfl ⟨_, _, rfl, rfl, rfl⟩ ?_)
      clear hl a; intro a hl
      refine wl (wl_skip hl rfl ⟨_, _, rfl, rfl, rfl⟩ ?_)
      clear hl a; intro a hl
      refine wl (wl_skip hl rfl ⟨_, _, rfl, rfl, rfl⟩ ?_)
      clear hl a; intro a hl
      refine wl (wl_skip hl rfl ⟨_, _, rfl, rfl, rfl⟩ ?_)
      clear hl a; intro a hl
      refine wl (wl_val hl rfl trivial (r_pickF hl rfl rfl) ?_)
      clear hl a; intro a hl
      refine w_nil ?_
      have hl2 := hl.add (t := 0) (hl.add (t := 1) (hl.add (t := 5) (hl.add (t := 22) (hl.nil) rfl) rfl) rfl) rfl; clear hl; have hl := hl2; clear hl2
      refine then_normal ?_
      refine c_condF hl rfl ?_
      refine wp_skip ?_
      refine blk_normal ?_
      refine then_normal ?_
      refine c_region ?_
      refine wl (wl_val hl rfl trivial (r_move hl rfl) ?_)
      clear hl a; intro a hl
      first | refine wl (wl_val hl rfl trivial (r_add hl rfl rfl (by simp only [Fits]; omega)) ?_) | refine wl (wl_val hl rfl trivial (r_addW hl rfl rfl) ?_)
      clear hl a; intro a hl
      refine wl (wl_val hl rfl trivial (r_assign hl rfl) ?_)
      clear hl a; intro a hl
      refine w_nil ?_
      have hl2 := hl.add (t := 0) (hl.add (t := 1) (hl.add (t := 5) (hl.nil) rfl) rfl) rfl; clear hl; have hl := hl2; clear hl2
      refine then_normal ?_
      refine ⟨(i + 1), (by omega), ⟨by omega, roomP_T hq (by omega)⟩, hl.addE (t := 5) (hl.addE (t := 0) (hl.addE (t := 1) (hl.nil) rfl (by first | rfl | (congr 1; omega))) rfl (by first | rfl | (congr 1; omega))) rfl (by first | rfl | (congr 1; omega)), hh.keep (by repeat (first | exact keeps_nil | apply keeps_cons (by repeat (first | exact find_head | apply find_tail)) (by first  | rfl) | exact keeps_self | apply keeps_mv))⟩
  · intro hc0
    try simp only [decide_eq_true_eq, decide_eq_false_iff_not, Bool.not_eq_true', Bool.not_eq_false', Bool.not_eq_true, Bool.not_eq_false, Bool.and_eq_true, Bool.or_eq_true, Bool.and_eq_false_iff, Bool.or_eq_false_iff, Bool.not_not, ne_eq, Int.not_lt, Int.not_le, Decidable.not_not, beq_iff_eq, bne_iff_ne] at hc0
    refine wp_exit ?_
    refine then_exit ?_
    refine then_exit ?_
    refine blk_exit ?_
    refine then_normal ?_
    refine c_seq ?_
    refine c_region ?_
    refine wl (wl_val hl rfl trivial (r_assign hl rfl) ?_)
    clear hl a; intro a hl
    refine w_nil ?_
    have hl2 := hl.add (t := 4) (hl.nil) rfl; clear hl; have hl := hl2; clear hl2
    refine then_normal ?_
    refine wp_ret ?_
    refine f_ret1 (F' := []) hl hh rfl rfl (by repeat (first | exact keeps_nil | apply keeps_cons (by repeat (first | exact find_head | apply find_tail)) (by first  | rfl) | exact keeps_self | apply keeps_mv)) ?_
    exact ⟨congrArg Value.bool (by rw [show i = 4 by omega] at hq; exact hq.symm), rfl⟩

theorem apply_gr {ep flr : Nat → Int} {ws : Nat → List Wt} {bm bt : Nat} {f : Nat → Value} {E : Nat → List (Nat × Obj)} (h : GrF ep flr ws bm bt f E) (bg : Nat) (tT : TypeId) (tf : Nat × Nat) (u : Up) (hw : u.w < 16) (B : Int) (hB : 0 ≤ B ∧ B ≤ 1000000000000) (he9 : 0 ≤ u.e ∧ u.e ≤ 1000000000000) (hok : WsOk (ws u.w) (flr u.w)) (hnb : WB B (ws u.w)) : SpK Tryz.prog 76 #[.pointer (some ⟨bg, 0 + 18 + (u.w % 4) * 32, none⟩), .agg ⟨[.int .u32 u.k, .int .i64 (u.w : Int), .int .u64 u.e, .int .u16 (mi u.s)]⟩] (PreT tT tf (grL bg f E)) (grL bg f E) (fun v F' => v = .tuple #[] ∧ ∃ f' E', F' = grL bg f' E' ∧ GrF ep (updI flr u.w (apF u.k (flr u.w) u.e)) (updW ws u.w (apL u.k (flr u.w) (ws u.w) u.e u.s)) bm bt f' E') :=
  gr_lift h hw (apply_spec (h.at_ hw) (by omega) hw bg tT tf u.k u.e u.s B hB he9 hok hnb)

set_option maxHeartbeats 4000000 in
theorem route_spec {g : Gs} {M : Mm} (hS : SysF g M) (bg : Nat) (tT : TypeId) (tf : Nat × Nat) (B Q : Int) (hq : BQ B Q) (hG : GI B Q g) (at_ : Nat) (ha : at_ < 4) (u : Up) (hw : u.w < 16) (he : 0 ≤ u.e ∧ u.e ≤ Q) (hr : u.w % 4 ≠ at_ → (g.bx (at_ * 4 + u.w % 4)).length < 32) : SpK Tryz.prog 73 #[.pointer (some ⟨bg, 0, none⟩), .int .i64 (at_ : Int), .agg ⟨[.int .u32 u.k, .int .i64 (u.w : Int), .int .u64 u.e, .int .u16 (mi u.s)]⟩] (PreT tT tf (sysL bg M)) (sysL bg M) (fun v F' => v = .tuple #[] ∧ ∃ M', F' = sysL bg M' ∧ SysF (routeG g at_ u) M' ∧ M'.bm = M.bm ∧ M'.bt = M.bt) := by
  refine f_enter (args := [.pointer (some ⟨bg, 0, none⟩), .int .i64 (at_ : Int), .agg ⟨[.int .u32 u.k, .int .i64 (u.w : Int), .int .u64 u.e, .int .u16 (mi u.s)]⟩]) Tryz.func73 rfl Tryz.ntmps73 rfl ?_
  intro w0 w a hpre hl hh
  have hb1 := hq.b; have hq1 := hq.q
  unfold sysL grL at hh
  try simp only [List.cons_append, List.append_assoc] at hh
  simp only [slotsFrom, Nat.reduceAdd] at hl
  refine c_seq ?_
  refine c_region ?_
  refine wl (w_box hl hh rfl trivial rfl rfl ?_)
  clear hl hh a w; intro k5 a w hl hh
  refine w_nil ?_
  have hl2 := hl.add (t := 0) (hl.add (t := 1) (hl.add (t := 5) (hl.nil) rfl) rfl) rfl; clear hl; have hl := hl2; clear hl2
  refine then_normal ?_
  refine c_seq ?_
  refine c_region ?_
  refine wl (wl_val hl rfl trivial (r_field hl rfl fld160_1) ?_)
  clear hl a; intro a hl
  refine wl (w_load hl hh rfl trivial one57 rfl (by repeat (first | exact find_head | apply find_tail | apply find_skip)) (by first | exact fg_p0 hS.gr.p0 | rfl) ?_)
  clear hl a; intro a hl
  refine wl (w_call hl hh rfl trivial rfl cal25 rfl (home_spec u.w hw) (by repeat (first | exact keeps_nil | apply keeps_cons (by repeat (first | exact find_head | apply find_tail | apply find_skip)) (by first  | rfl) | exact keeps_self | exact keeps_left | apply keeps_app | apply keeps_mv | apply keeps_skip)) trivial ?_)
  clear hl hh a w; intro vc Fc a w hR hl hh
  obtain ⟨rfl, rfl⟩ := hR
  try simp only [List.cons_append, List.nil_append, List.append_assoc, List.append_nil] at hh
  refine wl (wl_val hl rfl trivial (r_assign hl rfl) ?_)
  clear hl a; intro a hl
  refine w_nil ?_
  have hl2 := hl.add (t := 0) (hl.add (t := 1) (hl.add (t := 5) (hl.add (t := 6) (hl.nil) rfl) rfl) rfl) rfl; clear hl; have hl := hl2; clear hl2
  refine then_normal ?_
  refine c_seq ?_
  refine c_seq ?_
  refine c_region ?_
  refine wl (wl_val hl rfl trivial (r_move hl rfl) ?_)
  clear hl a; intro a hl
  refine wl (wl_val hl rfl trivial (r_move hl rfl) ?_)
  clear hl a; intro a hl
  refine wl (wl_val hl rfl trivial (r_eql hl rfl rfl) ?_)
  clear hl a; intro a hl
  refine w_nil ?_
  have hl2 := hl.add (t := 0) (hl.add (t := 1) (hl.add (t := 5) (hl.add (t := 6) (hl.add (t := 12) (hl.nil) rfl) rfl) rfl) rfl) rfl; clear hl; have hl := hl2; clear hl2
  refine then_normal ?_
  refine c_cond hl rfl ?_ ?_
  · intro hc0
    try simp only [decide_eq_true_eq, decide_eq_false_iff_not, Bool.not_eq_true', Bool.not_eq_false', Bool.not_eq_true, Bool.not_eq_false, Bool.and_eq_true, Bool.or_eq_true, Bool.and_eq_false_iff, Bool.or_eq_false_iff, Bool.not_not, ne_eq, Int.not_lt, Int.not_le, Decidable.not_not, beq_iff_eq, bne_iff_ne] at hc0
    refine c_seq ?_
    refine c_draw [(k5, C [.int .u32 u.k, .int .i64 (u.w : Int), .int .u64 u.e, .int .u16 (mi u.s)] 160)] [6] mixed hh ?_
    clear hh w; intro w hh
    have hM : Mem [(k5, C [.int .u32 u.k, .int .i64 (u.w : Int), .int .u64 u.e, .int .u16 (mi u.s)] 160)] w := (memK hh (by repeat (first | exact keeps_nil | apply keeps_cons (by repeat (first | exact find_head | apply find_tail | apply find_skip)) (by first  | rfl) | exact keeps_self | exact keeps_left | apply keeps_app | apply keeps_mv | apply keeps_skip)))
    refine d_take (i := 0) hl rfl (by kernel_rfl) (by kernel_rfl) (by kernel_rfl) (by kernel_rfl) (by kernel_rfl) rfl trivial (fun _ _ _ h => h) hM (fun w hC => r_move hl rfl) rfl ?_
    clear hl a; intro a hl
    refine d_take (i := 1) hl rfl (by kernel_rfl) (by kernel_rfl) (by kernel_rfl) (by kernel_rfl) (by kernel_rfl) rfl trivial (fun _ _ _ h => h) hM (fun w hC => r_move hl rfl) rfl ?_
    clear hl a; intro a hl
    refine d_take (i := 2) hl rfl (by kernel_rfl) (by kernel_rfl) (by kernel_rfl) (by kernel_rfl) (by kernel_rfl) rfl trivial (fun _ _ _ h => h) hM (fun w hC => r_nilCheck hl rfl) rfl ?_
    clear hl a; intro a hl
    refine d_take (i := 3) hl rfl (by kernel_rfl) (by kernel_rfl) (by kernel_rfl) (by kernel_rfl) (by kernel_rfl) rfl trivial (fun _ _ _ h => h) hM (fun w hC => r_field hl rfl fld94_3) rfl ?_
    clear hl a; intro a hl
    refine d_take (i := 4) hl rfl (by kernel_rfl) (by kernel_rfl) (by kernel_rfl) (by kernel_rfl) (by kernel_rfl) rfl trivial (fun _ _ _ h => h) hM (fun w hC => r_indexA hl rfl rfl arr92 (by omega) (by omega) (by first | (simp only [Int.reduceToNat]; rfl) | exact toNat_add1 _ | exact toNat_add2 _ _ | exact toNat_emod _ _ | exact Int.toNat_natCast _ | rfl)) rfl ?_
    clear hl a; intro a hl
    refine d_take (i := 5) hl rfl (by kernel_rfl) (by kernel_rfl) (by kernel_rfl) (by kernel_rfl) (by kernel_rfl) rfl trivial (fun _ _ _ h => h) hM (fun w hC => r_loadCA hl rfl agg160 hC (by repeat (first | exact find_head | apply find_tail | apply find_skip)) (by first | (simp only [List.getElem?_cons_zero, List.getElem?_cons_succ, Value.cells, List.take_zero, List.take_succ_cons, List.take_nil, List.drop_zero, List.drop_succ_cons, List.drop_nil, List.length_cons, List.length_nil, List.cons_append, List.nil_append, List.append_nil, Nat.zero_add, Nat.add_zero, Nat.reduceAdd, Nat.reduceBEq, Nat.reduceEqDiff, Nat.ble, BEq.rfl, Bool.and_true, Bool.and_self, cond_true, beq_self_eq_true]; rfl)) (by first | rfl | (simp; done))) rfl ?_
    clear hl a; intro a hl
    refine d_one (i := 6) (by kernel_rfl) rfl ?_
    try clear hM
    refine id (w_call hl hh rfl trivial rfl cal76 rfl (apply_gr hS.gr bg tT tf u hw B (by omega) (by omega) (hG.ok u.w hw) (hG.wb hq hw)) (by repeat (first | exact keeps_nil | apply keeps_cons (by repeat (first | exact find_head | apply find_tail | apply find_skip)) (by first  | rfl) | exact keeps_self | exact keeps_left | apply keeps_app | apply keeps_mv | apply keeps_skip)) (pt_call hh hpre (by repeat (first | exact keeps_nil | apply keeps_cons (by repeat (first | exact find_head | apply find_tail | apply find_skip)) (by first  | rfl) | exact keeps_self | exact keeps_left | apply keeps_app | apply keeps_mv | apply keeps_skip))) ?_)
    clear hl hh a w; intro vc Fc a w hR hl hh
    obtain ⟨rfl, f', E', hF, hG2⟩ := hR
    try simp only [List.cons_append, List.nil_append, List.append_assoc, List.append_nil] at hh
    subst hF
    try simp only [List.append_assoc] at hh
    refine d_step (fun h => absurd h (by decide)) ?_
    refine d_done (by kernel_rfl) ?_
    try clear hM
    have hl2 := hl.nil; clear hl; have hl := hl2; clear hl2
    refine then_normal ?_
    refine wp_ret ?_
    refine then_ret ?_
    refine f_ret0 (F' := (grL bg f' E' ++ (mcL M.bm M.fm M.Em ++ tbL M.bt M.ft M.Et))) hl hh rfl (by repeat (first | exact keeps_nil | apply keeps_cons (by repeat (first | exact find_head | apply find_tail | apply find_skip)) (by first  | rfl) | exact keeps_self | exact keeps_left | apply keeps_app | apply keeps_mv | apply keeps_skip)) ?_
    unfold routeG; rw [if_pos (by omega)]; exact ⟨rfl, ⟨M.bm, M.bt, f', M.fm, M.ft, E', M.Em, M.Et⟩, rfl, ⟨hG2, hS.mc, hS.tb⟩, rfl, rfl⟩
  · intro hc0
    try simp only [decide_eq_true_eq, decide_eq_false_iff_not, Bool.not_eq_true', Bool.not_eq_false', Bool.not_eq_true, Bool.not_eq_false, Bool.and_eq_true, Bool.or_eq_true, Bool.and_eq_false_iff, Bool.or_eq_false_iff, Bool.not_not, ne_eq, Int.not_lt, Int.not_le, Decidable.not_not, beq_iff_eq, bne_iff_ne] at hc0
    refine wp_skip ?_
    refine then_normal ?_
    refine c_seq ?_
    refine c_draw [(k5, C [.int .u32 u.k, .int .i64 (u.w : Int), .int .u64 u.e, .int .u16 (mi u.s)] 160), (bg, C (arrL 146 M.fg) 94)] [10, 11] mixed hh ?_
    clear hh w; intro w hh
    have hM : Mem [(k5, C [.int .u32 u.k, .int .i64 (u.w : Int), .int .u64 u.e, .int .u16 (mi u.s)] 160), (bg, C (arrL 146 M.fg) 94)] w := (memK hh (by repeat (first | exact keeps_nil | apply keeps_cons (by repeat (first | exact find_head | apply find_tail | apply find_skip)) (by first  | rfl) | exact keeps_self | exact keeps_left | apply keeps_app | apply keeps_mv | apply keeps_skip)))
    refine d_take (i := 0) hl rfl (by kernel_rfl) (by kernel_rfl) (by kernel_rfl) (by kernel_rfl) (by kernel_rfl) rfl trivial (fun _ _ _ h => h) hM (fun w hC => r_move hl rfl) rfl ?_
    clear hl a; intro a hl
    refine d_take (i := 1) hl rfl (by kernel_rfl) (by kernel_rfl) (by kernel_rfl) (by kernel_rfl) (by kernel_rfl) rfl trivial (fun _ _ _ h => h) hM (fun w hC => r_nilCheck hl rfl) rfl ?_
    clear hl a; intro a hl
    refine d_take (i := 2) hl rfl (by kernel_rfl) (by kernel_rfl) (by kernel_rfl) (by kernel_rfl) (by kernel_rfl) rfl trivial (fun _ _ _ h => h) hM (fun w hC => r_field hl rfl fld94_0) rfl ?_
    clear hl a; intro a hl
    refine d_take (i := 3) hl rfl (by kernel_rfl) (by kernel_rfl) (by kernel_rfl) (by kernel_rfl) (by kernel_rfl) rfl trivial (fun _ _ _ h => h) hM (fun w hC => r_loadC hl rfl one25 hC (by repeat (first | exact find_head | apply find_tail | apply find_skip)) (by first | exact fg_p0 hS.gr.p0 | rfl)) rfl ?_
    clear hl a; intro a hl
    refine d_take (i := 4) hl rfl (by kernel_rfl) (by kernel_rfl) (by kernel_rfl) (by kernel_rfl) (by kernel_rfl) rfl trivial (fun _ _ _ h => h) hM (fun w hC => r_move hl rfl) rfl ?_
    clear hl a; intro a hl
    refine d_take (i := 5) hl rfl (by kernel_rfl) (by kernel_rfl) (by kernel_rfl) (by kernel_rfl) (by kernel_rfl) rfl trivial (fun _ _ _ h => h) hM (fun w hC => r_move hl rfl) rfl ?_
    clear hl a; intro a hl
    refine d_take (i := 6) hl rfl (by kernel_rfl) (by kernel_rfl) (by kernel_rfl) (by kernel_rfl) (by kernel_rfl) rfl trivial (fun _ _ _ h => h) hM (fun w hC => r_field hl rfl fld160_0) rfl ?_
    clear hl a; intro a hl
    refine d_take (i := 7) hl rfl (by kernel_rfl) (by kernel_rfl) (by kernel_rfl) (by kernel_rfl) (by kernel_rfl) rfl trivial (fun _ _ _ h => h) hM (fun w hC => r_loadC hl rfl one74 hC (by repeat (first | exact find_head | apply find_tail | apply find_skip)) (by first | exact fg_p0 hS.gr.p0 | rfl)) rfl ?_
    clear hl a; intro a hl
    refine d_take (i := 8) hl rfl (by kernel_rfl) (by kernel_rfl) (by kernel_rfl) (by kernel_rfl) (by kernel_rfl) rfl trivial (fun _ _ _ h => h) hM (fun w hC => r_loadCA hl rfl agg160 hC (by repeat (first | exact find_head | apply find_tail | apply find_skip)) (by first | (simp only [List.getElem?_cons_zero, List.getElem?_cons_succ, Value.cells, List.take_zero, List.take_succ_cons, List.take_nil, List.drop_zero, List.drop_succ_cons, List.drop_nil, List.length_cons, List.length_nil, List.cons_append, List.nil_append, List.append_nil, Nat.zero_add, Nat.add_zero, Nat.reduceAdd, Nat.reduceBEq, Nat.reduceEqDiff, Nat.ble, BEq.rfl, Bool.and_true, Bool.and_self, cond_true, beq_self_eq_true]; rfl)) (by first | rfl | (simp; done))) rfl ?_
    clear hl a; intro a hl
    refine d_one (i := 9) (by kernel_rfl) rfl ?_
    try clear hM
    refine id (w_call hl hh rfl trivial rfl cal91 rfl (words_spec u hw) (by repeat (first | exact keeps_nil | apply keeps_cons (by repeat (first | exact find_head | apply find_tail | apply find_skip)) (by first  | rfl) | exact keeps_self | exact keeps_left | apply keeps_app | apply keeps_mv | apply keeps_skip)) trivial ?_)
    clear hl hh a w; intro vc Fc a w hR hl hh
    obtain ⟨rfl, rfl⟩ := hR
    try simp only [List.cons_append, List.nil_append, List.append_assoc, List.append_nil] at hh
    have hM : Mem [(k5, C [.int .u32 u.k, .int .i64 (u.w : Int), .int .u64 u.e, .int .u16 (mi u.s)] 160), (bg, C (arrL 146 M.fg) 94)] w := (memK hh (by repeat (first | exact keeps_nil | apply keeps_cons (by repeat (first | exact find_head | apply find_tail | apply find_skip)) (by first  | rfl) | exact keeps_self | exact keeps_left | apply keeps_app | apply keeps_mv | apply keeps_skip)))
    refine d_step (fun _ => hM) ?_
    refine d_one (i := 10) (by kernel_rfl) rfl ?_
    try clear hM
    refine id (w_call hl hh rfl trivial rfl cal56 rfl (send_spec hS.mc M.bm hG.b32 at_ (u.w % 4) ha (by omega) u.k u.w u.e (mi u.s) 0 (hr (by omega))) (by repeat (first | exact keeps_nil | apply keeps_cons (by repeat (first | exact find_head | apply find_tail | apply find_skip)) (by first  | rfl) | exact keeps_self | exact keeps_left | apply keeps_app | apply keeps_mv | apply keeps_skip)) trivial ?_)
    clear hl hh a w; intro vc Fc a w hR hl hh
    obtain ⟨rfl, f', E', rfl, hM2⟩ := hR
    try simp only [List.cons_append, List.nil_append, List.append_assoc, List.append_nil] at hh
    try simp only [List.append_assoc] at hh
    refine d_step (fun h => absurd h (by decide)) ?_
    refine d_takeL (i := 11) hl rfl (by kernel_rfl) (by kernel_rfl) (by kernel_rfl) (by kernel_rfl) (by kernel_rfl) rfl trivial (fun _ _ _ h => h) (fun w => r_neq hl rfl rfl) rfl ?_
    clear hl a; intro a hl
    refine d_done (by kernel_rfl) ?_
    try clear hM
    have hl2 := hl.add (t := 31) (hl.nil) rfl; clear hl; have hl := hl2; clear hl2
    refine then_normal ?_
    refine c_cond hl rfl ?_ ?_
    · intro hc1
      try simp only [decide_eq_true_eq, decide_eq_false_iff_not, Bool.not_eq_true', Bool.not_eq_false', Bool.not_eq_true, Bool.not_eq_false, Bool.and_eq_true, Bool.or_eq_true, Bool.and_eq_false_iff, Bool.or_eq_false_iff, Bool.not_not, ne_eq, Int.not_lt, Int.not_le, Decidable.not_not, beq_iff_eq, bne_iff_ne] at hc1
      exfalso; first | contradiction | omega
    · intro hc1
      try simp only [decide_eq_true_eq, decide_eq_false_iff_not, Bool.not_eq_true', Bool.not_eq_false', Bool.not_eq_true, Bool.not_eq_false, Bool.and_eq_true, Bool.or_eq_true, Bool.and_eq_false_iff, Bool.or_eq_false_iff, Bool.not_not, ne_eq, Int.not_lt, Int.not_le, Decidable.not_not, beq_iff_eq, bne_iff_ne] at hc1
      refine wp_skip ?_
      refine f_end0 (F' := (grL bg M.fg M.Eg ++ (mcL M.bm f' E' ++ tbL M.bt M.ft M.Et))) hl hh rfl (by repeat (first | exact keeps_nil | apply keeps_cons (by repeat (first | exact find_head | apply find_tail | apply find_skip)) (by first  | rfl) | exact keeps_self | exact keeps_left | apply keeps_app | apply keeps_mv | apply keeps_skip)) ?_
      unfold routeG; rw [if_neg (by omega)]; exact ⟨rfl, ⟨M.bm, M.bt, M.fg, f', M.ft, M.Eg, E', M.Et⟩, rfl, ⟨hS.gr, hM2, hS.tb⟩, rfl, rfl⟩
end Go.Proofs.Qxb6500911aGreatDoor

import Derived.Test.Qxb6500907aR30
namespace Go.Proofs.Qxb6500907a
open Go.Eng
set_option linter.unusedVariables false
set_option linter.unusedSimpArgs false

/-! ## the model's network in the layer's shape -/
def bel (rs : List Rt) (a n : Int) : List Rt := rs.filter fun r => decide (lessR r a n)
theorem bel_next {rs : List Rt} (hp : rs.Pairwise fun x y => lessR x y.a y.l) {r : Rt} (hr : r ∈ rs) {a n : Int} (h1 : r.a = a) (h2 : r.l = n) : bel rs a (n + 1) = bel rs a n ++ [r] := by
  induction rs with
  | nil => simp at hr
  | cons x l ih =>
    rw [List.pairwise_cons] at hp
    unfold bel at *
    rw [List.filter_cons, List.filter_cons]
    by_cases hx : lessR x a n
    · have hx' : lessR x a (n + 1) := by unfold lessR at *; omega
      rw [if_pos (by simpa using hx'), if_pos (by simpa using hx), List.cons_append]
      congr 1
      refine ih hp.2 ?_
      rcases List.mem_cons.1 hr with e | e
      · subst e; unfold lessR at hx; omega
      · exact e
    · rcases List.mem_cons.1 hr with e | e
      · subst e
        have hx' : lessR r a (n + 1) := by unfold lessR; omega
        rw [if_pos (by simpa using hx'), if_neg (by simpa using hx)]
        have e1 : l.filter (fun r => decide (lessR r a (n + 1))) = [] := List.filter_eq_nil_iff.2 fun y hy => by
          have := hp.1 y hy
          simp only [decide_eq_true_eq]
          unfold lessR at *
          omega
        have e2 : l.filter (fun r => decide (lessR r a n)) = [] := List.filter_eq_nil_iff.2 fun y hy => by
          have := hp.1 y hy
          simp only [decide_eq_true_eq]
          unfold lessR at *
          omega
        rw [e1, e2]
        rfl
      · have := hp.1 r e
        rw [h1, h2] at this
        exact absurd this hx
theorem bel_same {rs : List Rt} {a n : Int} (h : ∀ r, r ∈ rs → ¬ (r.a = a ∧ r.l = n)) : bel rs a (n + 1) = bel rs a n := by
  unfold bel
  refine List.filter_congr fun r hr => ?_
  have := h r hr
  rw [decide_eq_decide]
  unfold lessR
  omega
theorem bel_up {rs : List Rt} {a : Int} (h : ∀ r, r ∈ rs → r.l ≤ 8) (h0 : ∀ r, r ∈ rs → RtOk r) : bel rs (a + 1) 0 = bel rs a 9 := by
  unfold bel
  refine List.filter_congr fun r hr => ?_
  have h1 := h r hr
  have h2 := (h0 r hr).2.1
  rw [decide_eq_decide]
  unfold lessR
  omega
theorem bel_zero {rs : List Rt} (h0 : ∀ r, r ∈ rs → RtOk r) : bel rs 0 0 = [] := by
  unfold bel
  refine List.filter_eq_nil_iff.2 fun r hr => ?_
  have h1 := (h0 r hr).1
  have h2 := (h0 r hr).2.1
  simp only [decide_eq_true_eq]
  unfold lessR
  omega
theorem bel_all {rs : List Rt} (h0 : ∀ r, r ∈ rs → RtOk r) : bel rs 256 0 = rs := by
  unfold bel
  refine List.filter_eq_self.2 fun r hr => ?_
  have h1 := (h0 r hr).1
  simp only [decide_eq_true_eq]
  unfold lessR
  omega
theorem bel_len (rs : List Rt) (a n : Int) : (bel rs a n).length ≤ rs.length := List.length_filter_le _ _
theorem look_case {l : List (ME PK)} {nb : Nat} {rs : List Rt} (h : DRel l nb rs) (hs : Srt rs) (hr : ∀ r, r ∈ rs → RtOk r) (ak : PK) :
    (dget l ak = none ∧ bel rs ((ak.1.1 : Nat) : Int) (((ak.2.1 : Nat) : Int) + 1) = bel rs ((ak.1.1 : Nat) : Int) ((ak.2.1 : Nat) : Int)) ∨
    ∃ v, dget l ak = some (.int .u8 v) ∧ bel rs ((ak.1.1 : Nat) : Int) (((ak.2.1 : Nat) : Int) + 1) = bel rs ((ak.1.1 : Nat) : Int) ((ak.2.1 : Nat) : Int) ++ [⟨((ak.1.1 : Nat) : Int), ((ak.2.1 : Nat) : Int), v⟩] := by
  cases e : dfind l ak with
  | none =>
    left
    have h1 : dget l ak = none := by unfold dget; rw [e]; rfl
    refine ⟨h1, bel_same fun r hm hk => ?_⟩
    have h2 := h.no hs hr (ak := ak)
    rw [h1, (fnd_iff hs).2 ⟨r, hm, hk.1, hk.2⟩] at h2
    cases h2
  | some x =>
    obtain ⟨i, v⟩ := x
    right
    obtain ⟨r, g1, g2, g3, g4, _⟩ := h.val hs hr e
    refine ⟨r.v, by unfold dget; rw [e, g4]; rfl, ?_⟩
    rw [bel_next ((srt_pw rs).1 hs) (List.mem_of_getElem? g1) g2 g3, ← g2, ← g3]
/-- the low bits of a mask -/
def lowB (m : Int) (p : Nat) : Int := ((m.toNat % 2 ^ p : Nat) : Int)
theorem lowB_zero (m : Int) : lowB m 0 = 0 := by unfold lowB; simp [Nat.mod_one]
theorem lowB_all {m : Int} (h : 0 ≤ m ∧ m ≤ 65535) : lowB m 16 = m := by
  unfold lowB
  rw [Nat.mod_eq_of_lt (by omega)]
  omega
theorem bit_test {m : Int} (h : 0 ≤ m ∧ m ≤ 65535) {p : Nat} (hp : p < 16) : bitF m (p : Int) = m.toNat.testBit p := by
  obtain ⟨k, rfl⟩ : ∃ k : Nat, m = (k : Int) := ⟨m.toNat, by omega⟩
  rw [bitF_bv h p hp, bv_nat, BitVec.getLsbD_ofNat, Int.toNat_natCast]
  simp [hp]
theorem lowB_no {m : Int} (h : 0 ≤ m ∧ m ≤ 65535) {p : Nat} (hp : p < 16) (hb : bitF m (p : Int) = false) : lowB m (p + 1) = lowB m p := by
  rw [bit_test h hp, Nat.testBit_eq_decide_div_mod_eq, decide_eq_false_iff_not] at hb
  unfold lowB
  rw [Nat.mod_pow_succ, show m.toNat / 2 ^ p % 2 = 0 by omega]
  simp
theorem lowB_yes {m : Int} (h : 0 ≤ m ∧ m ≤ 65535) {p : Nat} (hp : p < 16) (hb : bitF m (p : Int) = true) : IntKind.u16.wrap (lowB m p + shlB (p : Int)) = lowB m (p + 1) := by
  rw [bit_test h hp, Nat.testBit_eq_decide_div_mod_eq, decide_eq_true_eq] at hb
  have e1 : shlB (p : Int) = ((2 ^ p : Nat) : Int) := by
    have h2 : min (p : Int).toNat IntKind.u16.bits = p := by simp [IntKind.bits]; omega
    unfold shlB
    rw [h2, Int.one_mul]
    have h3 : (2 : Int) ^ p = ((2 ^ p : Nat) : Int) := by simp
    rw [h3, wrap16 _ (by have := Nat.pow_lt_pow_right (a := 2) (by omega) hp; omega)]
  have e2 : m.toNat % 2 ^ (p + 1) = m.toNat % 2 ^ p + 2 ^ p := by
    rw [Nat.mod_pow_succ, hb]
    simp
  rw [e1]
  unfold lowB
  rw [← Int.natCast_add, ← e2, wrap16]
  have h5 : m.toNat % 2 ^ (p + 1) < 2 ^ (p + 1) := Nat.mod_lt _ (Nat.two_pow_pos _)
  have h6 : 2 ^ (p + 1) ≤ 2 ^ 16 := Nat.pow_le_pow_right (by omega) (by omega)
  omega
/-- the state of the network's loop -/
structure WS where
  i : Nat
  rv : Nat → Value
  av : Nat → Value
  Q : Pl
  f : Nat → List (Nat × Obj)
structure WI (P : Pl) (s : WS) : Prop where
  hi : s.i ≤ 16
  dn : ∀ d, d < s.i → (∃ Er Ea, RowR (s.rv d) (P.rs d) Er ∧ RowA (s.av d) (P.al d) Ea ∧ ∀ x, x ∈ Er ++ Ea → x ∈ s.f d) ∧ s.Q.ifc d = P.ifc d ∧ s.Q.link d = P.link d
  un : ∀ d, s.i ≤ d → s.rv d = .slice none 0 0 ∧ s.av d = .slice none 0 0 ∧ s.Q.ifc d = 0 ∧ s.Q.link d = 0 ∧ s.f d = []
def WS0 : WS := ⟨0, nilV, nilV, pz, fun _ => []⟩
theorem WI.zero (P : Pl) : WI P WS0 := ⟨Nat.zero_le _, fun d h => absurd h (Nat.not_lt_zero _), fun d _ => ⟨rfl, rfl, rfl, rfl, rfl⟩⟩
def QN (Q : Pl) (d : Nat) (m k : Int) : Pl := { Q with ifc := upd Q.ifc d m, link := upd Q.link d k }
def WSN (s : WS) (rv av : Value) (m k : Int) (E : List (Nat × Obj)) : WS := ⟨s.i + 1, upd s.rv s.i rv, upd s.av s.i av, QN s.Q s.i m k, upd s.f s.i E⟩
theorem WI.next {P : Pl} {s : WS} (h : WI P s) (hi : s.i < 16) {rv av : Value} {Er Ea : List (Nat × Obj)} (hr : RowR rv (P.rs s.i) Er) (ha : RowA av (P.al s.i) Ea) {E : List (Nat × Obj)} (hE : ∀ x, x ∈ Er ++ Ea → x ∈ E) : WI P (WSN s rv av (P.ifc s.i) (P.link s.i) E) where
  hi := hi
  dn := fun d hd => by
    change d < s.i + 1 at hd
    show (∃ Er Ea, RowR (upd s.rv s.i rv d) (P.rs d) Er ∧ RowA (upd s.av s.i av d) (P.al d) Ea ∧ ∀ x, x ∈ Er ++ Ea → x ∈ upd s.f s.i E d) ∧ upd s.Q.ifc s.i (P.ifc s.i) d = P.ifc d ∧ upd s.Q.link s.i (P.link s.i) d = P.link d
    by_cases e : d = s.i
    · rw [e, upd_same, upd_same, upd_same, upd_same, upd_same]; exact ⟨⟨Er, Ea, hr, ha, hE⟩, rfl, rfl⟩
    · rw [upd_other _ _ e, upd_other _ _ e, upd_other _ _ e, upd_other _ _ e, upd_other _ _ e]; exact h.dn d (by omega)
  un := fun d hd => by
    change s.i + 1 ≤ d at hd
    show upd s.rv s.i rv d = .slice none 0 0 ∧ upd s.av s.i av d = .slice none 0 0 ∧ upd s.Q.ifc s.i (P.ifc s.i) d = 0 ∧ upd s.Q.link s.i (P.link s.i) d = 0 ∧ upd s.f s.i E d = []
    have e : d ≠ s.i := by omega
    rw [upd_other _ _ e, upd_other _ _ e, upd_other _ _ e, upd_other _ _ e, upd_other _ _ e]; exact h.un d (by omega)
theorem nv_same {rv av : Nat → Value} {Q P : Pl} (h1 : ∀ d, d < 16 → Q.ifc d = P.ifc d) (h2 : ∀ d, d < 16 → Q.link d = P.link d) : arrL 64 (nvF rv av Q) = arrL 64 (nvF rv av P) := by
  refine arr_ext fun j hj => ?_
  unfold nvF
  by_cases c : j < 48
  · rw [if_pos c, if_pos c, h1 (j / 3) (by omega)]
  · rw [if_neg c, if_neg c, h2 (j - 48) (by omega)]
theorem WI.net {P : Pl} {s : WS} (h : WI P s) (e : s.i = 16) : NetR s.rv s.av P (tabX s.f) := fun d hd => by
  obtain ⟨⟨Er, Ea, h1, h2, h3⟩, _⟩ := h.dn d (by omega)
  exact ⟨Er, Ea, h1, h2, fun x hx => tab_mem hd (h3 x hx)⟩
theorem WI.cells {P : Pl} {s : WS} (h : WI P s) (e : s.i = 16) : arrL 64 (nvF s.rv s.av s.Q) = arrL 64 (nvF s.rv s.av P) :=
  nv_same (fun d hd => (h.dn d (by omega)).2.1) (fun d hd => (h.dn d (by omega)).2.2)
theorem WI.one {P : Pl} {s : WS} (h : WI P s) : ∀ d, d < 16 → (s.rv d).oneCell' = true ∧ (s.av d).oneCell' = true := fun d hd => by
  by_cases c : d < s.i
  · obtain ⟨⟨Er, Ea, h1, h2, _⟩, _⟩ := h.dn d c
    exact ⟨Row.one h1, Row.one h2⟩
  · obtain ⟨h1, h2, _⟩ := h.un d (by omega)
    rw [h1, h2]; exact ⟨rfl, rfl⟩
theorem wv_rv {rv av : Nat → Value} {P : Pl} {d : Nat} (h : d < 16) : (arrL 64 (nvF rv av P))[0 + 0 + d * 3 + 0]? = some (rv d) := by
  rw [arrL_get (by omega)]; unfold nvF; rw [if_pos (by omega), if_pos (by omega), show (0 + 0 + d * 3 + 0) / 3 = d by omega]
theorem wv_av {rv av : Nat → Value} {P : Pl} {d : Nat} (h : d < 16) : (arrL 64 (nvF rv av P))[0 + 0 + d * 3 + 1]? = some (av d) := by
  rw [arrL_get (by omega)]; unfold nvF; rw [if_pos (by omega), if_neg (by omega), if_pos (by omega), show (0 + 0 + d * 3 + 1) / 3 = d by omega]
theorem wv_if {rv av : Nat → Value} {P : Pl} {d : Nat} (h : d < 16) : (arrL 64 (nvF rv av P))[0 + 0 + d * 3 + 2]? = some (.int .u16 (P.ifc d)) := by
  rw [arrL_get (by omega)]; unfold nvF; rw [if_pos (by omega), if_neg (by omega), if_neg (by omega), show (0 + 0 + d * 3 + 2) / 3 = d by omega]
theorem wv_lk {rv av : Nat → Value} {P : Pl} {d : Nat} (h : d < 16) : (arrL 64 (nvF rv av P))[0 + 48 + d * 1]? = some (.int .u16 (P.link d)) := by
  rw [arrL_get (by omega)]; unfold nvF; rw [if_neg (by omega), show 0 + 48 + d * 1 - 48 = d by omega]
theorem wv_srv {rv av : Nat → Value} {P : Pl} {d : Nat} {v : Value} (h : d < 16) : setL (arrL 64 (nvF rv av P)) (0 + 0 + d * 3 + 0) [v] = arrL 64 (nvF (upd rv d v) av P) := by
  rw [arrL_set (by omega)]
  refine arr_ext fun i hi => ?_
  unfold updV nvF
  by_cases e : i = 0 + 0 + d * 3 + 0
  · rw [if_pos e, if_pos (by omega), if_pos (by omega), show i / 3 = d by omega, upd_same]
  · rw [if_neg e]
    by_cases c1 : i < 48
    · rw [if_pos c1, if_pos c1]
      by_cases c2 : i % 3 = 0
      · rw [if_pos c2, if_pos c2, upd_other _ _ (by omega)]
      · rw [if_neg c2, if_neg c2]
    · rw [if_neg c1, if_neg c1]
theorem wv_sav {rv av : Nat → Value} {P : Pl} {d : Nat} {v : Value} (h : d < 16) : setL (arrL 64 (nvF rv av P)) (0 + 0 + d * 3 + 1) [v] = arrL 64 (nvF rv (upd av d v) P) := by
  rw [arrL_set (by omega)]
  refine arr_ext fun i hi => ?_
  unfold updV nvF
  by_cases e : i = 0 + 0 + d * 3 + 1
  · rw [if_pos e, if_pos (by omega), if_neg (by omega), if_pos (by omega), show i / 3 = d by omega, upd_same]
  · rw [if_neg e]
    by_cases c1 : i < 48
    · rw [if_pos c1, if_pos c1]
      by_cases c2 : i % 3 = 0
      · rw [if_pos c2, if_pos c2]
      · rw [if_neg c2, if_neg c2]
        by_cases c3 : i % 3 = 1
        · rw [if_pos c3, if_pos c3, upd_other _ _ (by omega)]
        · rw [if_neg c3, if_neg c3]
    · rw [if_neg c1, if_neg c1]
theorem wv_sif {rv av : Nat → Value} {P : Pl} {d : Nat} {v : Int} (h : d < 16) : setL (arrL 64 (nvF rv av P)) (0 + 0 + d * 3 + 2) [.int .u16 v] = arrL 64 (nvF rv av { P with ifc := upd P.ifc d v }) := by
  rw [arrL_set (by omega)]
  refine arr_ext fun i hi => ?_
  unfold updV nvF
  by_cases e : i = 0 + 0 + d * 3 + 2
  · rw [if_pos e, if_pos (by omega), if_neg (by omega), if_neg (by omega), show i / 3 = d by omega]; simp only [upd_same]
  · rw [if_neg e]
    by_cases c1 : i < 48
    · rw [if_pos c1, if_pos c1]
      by_cases c2 : i % 3 = 0
      · rw [if_pos c2, if_pos c2]
      · rw [if_neg c2, if_neg c2]
        by_cases c3 : i % 3 = 1
        · rw [if_pos c3, if_pos c3]
        · rw [if_neg c3, if_neg c3]; simp only [upd_other _ _ (show i / 3 ≠ d by omega)]
    · rw [if_neg c1, if_neg c1]
theorem wv_slk {rv av : Nat → Value} {P : Pl} {d : Nat} {v : Int} (h : d < 16) : setL (arrL 64 (nvF rv av P)) (0 + 48 + d * 1) [.int .u16 v] = arrL 64 (nvF rv av { P with link := upd P.link d v }) := by
  rw [arrL_set (by omega)]
  refine arr_ext fun i hi => ?_
  unfold updV nvF
  by_cases c1 : i < 48
  · rw [if_neg (by omega), if_pos c1, if_pos c1]
  · rw [if_neg c1, if_neg c1]
    by_cases e : i = 0 + 48 + d * 1
    · rw [if_pos e, show i - 48 = d by omega]; simp only [upd_same]
    · rw [if_neg e]; simp only [upd_other _ _ (show i - 48 ≠ d by omega)]
theorem QN_self (Q : Pl) (d : Nat) (h1 : Q.ifc d = 0) (h2 : Q.link d = 0) : QN Q d 0 0 = Q := by
  unfold QN
  have e1 : upd Q.ifc d 0 = Q.ifc := by rw [← h1]; exact upd_self _ _
  have e2 : upd Q.link d 0 = Q.link := by rw [← h2]; exact upd_self _ _
  rw [e1, e2]
theorem QN_if (Q : Pl) (d : Nat) (m k m' : Int) : { QN Q d m k with ifc := upd (QN Q d m k).ifc d m' } = QN Q d m' k := by
  unfold QN
  simp only [upd_upd]
theorem QN_lk (Q : Pl) (d : Nat) (m k k' : Int) : { QN Q d m k with link := upd (QN Q d m k).link d k' } = QN Q d m k' := by
  unfold QN
  simp only [upd_upd]
theorem wv_rv2 {rv av : Nat → Value} {P : Pl} {d : Nat} {v : Value} (h : d < 16) : (arrL 64 (nvF (upd rv d v) av P))[0 + 0 + d * 3 + 0]? = some v := (wv_rv h).trans (congrArg some (upd_same _ _ _))
theorem wv_srv2 {rv av : Nat → Value} {P : Pl} {d : Nat} {v v' : Value} (h : d < 16) : setL (arrL 64 (nvF (upd rv d v) av P)) (0 + 0 + d * 3 + 0) [v'] = arrL 64 (nvF (upd rv d v') av P) := by rw [wv_srv h, upd_upd]
theorem wv_ifQ {rv av : Nat → Value} {Q : Pl} {d : Nat} {m k : Int} (h : d < 16) : (arrL 64 (nvF rv av (QN Q d m k)))[0 + 0 + d * 3 + 2]? = some (.int .u16 m) := by
  rw [wv_if h]; show some (Value.int .u16 (upd Q.ifc d m d)) = _; rw [upd_same]
theorem wv_lkQ {rv av : Nat → Value} {Q : Pl} {d : Nat} {m k : Int} (h : d < 16) : (arrL 64 (nvF rv av (QN Q d m k)))[0 + 48 + d * 1]? = some (.int .u16 k) := by
  rw [wv_lk h]; show some (Value.int .u16 (upd Q.link d k d)) = _; rw [upd_same]
theorem wv_sifQ {rv av : Nat → Value} {Q : Pl} {d : Nat} {m k v : Int} (h : d < 16) : setL (arrL 64 (nvF rv av (QN Q d m k))) (0 + 0 + d * 3 + 2) [.int .u16 v] = arrL 64 (nvF rv av (QN Q d v k)) := by rw [wv_sif h, QN_if]
theorem wv_slkQ {rv av : Nat → Value} {Q : Pl} {d : Nat} {m k v : Int} (h : d < 16) : setL (arrL 64 (nvF rv av (QN Q d m k))) (0 + 48 + d * 1) [.int .u16 v] = arrL 64 (nvF rv av (QN Q d m v)) := by rw [wv_slk h, QN_lk]
theorem look_some {l : List (ME PK)} {ak : PK} {x y : List Rt} {g : Int → List Rt} (h : (dget l ak = none ∧ x = y) ∨ ∃ v, dget l ak = some (.int .u8 v) ∧ x = g v) (hs : (dget l ak).isSome = true) : ∃ v, dget l ak = some (.int .u8 v) ∧ x = g v := by
  rcases h with ⟨h1, _⟩ | h
  · rw [h1] at hs; cases hs
  · exact h
theorem look_none {l : List (ME PK)} {ak : PK} {x y : List Rt} {g : Int → List Rt} (h : (dget l ak = none ∧ x = y) ∨ ∃ v, dget l ak = some (.int .u8 v) ∧ x = g v) (hs : (dget l ak).isSome = false) : x = y := by
  rcases h with ⟨_, h⟩ | ⟨v, h, _⟩
  · exact h
  · rw [h] at hs; cases hs

end Go.Proofs.Qxb6500907a

import Derived.Test.Qxb6500907aR28
import Derived.Test.Qxb6500907aV1
namespace Go.Proofs.Qxb6500907a
open Go.Eng
set_option linter.unusedVariables false
set_option linter.unusedSimpArgs false

/-! ## the model's tables and the layer's -/
def rk (r : Rt) : PK := (Fin.ofNat 256 r.a.toNat, Fin.ofNat 256 r.l.toNat)
def kvR (r : Rt) : PK × Value := (rk r, .int .u8 r.v)
def kvM (p : ME PK) : PK × Value := (p.ky, p.vl)
structure DRel (l : List (ME PK)) (nb : Nat) (rs : List Rt) : Prop where
  lt : ∀ p, p ∈ l → p.bo < nb
  nd : (l.map ME.bo).Nodup
  pm : (l.map kvM).Perm (rs.map kvR)
theorem rk_val {r : Rt} (h : RtOk r) : (((rk r).1.1 : Nat) : Int) = r.a ∧ (((rk r).2.1 : Nat) : Int) = r.l := by
  obtain ⟨⟨h1, h2⟩, ⟨h3, h4⟩, _⟩ := h
  unfold rk
  constructor
  · show ((r.a.toNat % 256 : Nat) : Int) = r.a
    omega
  · show ((r.l.toNat % 256 : Nat) : Int) = r.l
    omega
theorem rk_inj {r s : Rt} (h : RtOk r) (h' : RtOk s) (e : rk r = rk s) : r.a = s.a ∧ r.l = s.l := by
  have h1 := rk_val h
  have h2 := rk_val h'
  rw [e] at h1
  exact ⟨h1.1.symm.trans h2.1, h1.2.symm.trans h2.2⟩
theorem rk_eq {r s : Rt} (h1 : r.a = s.a) (h2 : r.l = s.l) : rk r = rk s := by unfold rk; rw [h1, h2]
theorem keys_nd {rs : List Rt} (hs : Srt rs) (hr : ∀ r, r ∈ rs → RtOk r) : (rs.map rk).Nodup := by
  rw [List.Nodup, List.pairwise_map]
  refine List.Pairwise.imp_of_mem ?_ ((srt_pw rs).1 hs)
  intro x y hx hy h e
  obtain ⟨e1, e2⟩ := rk_inj (hr x hx) (hr y hy) e
  unfold lessR at h
  omega
theorem DRel.keys {l : List (ME PK)} {nb : Nat} {rs : List Rt} (h : DRel l nb rs) (hs : Srt rs) (hr : ∀ r, r ∈ rs → RtOk r) : (l.map ME.ky).Nodup := by
  have h1 : (l.map kvM).map Prod.fst = l.map ME.ky := by rw [List.map_map]; rfl
  have h2 : (rs.map kvR).map Prod.fst = rs.map rk := by rw [List.map_map]; rfl
  rw [← h1]
  refine (List.Perm.nodup_iff (h.pm.map Prod.fst)).2 ?_
  rw [h2]
  exact keys_nd hs hr
theorem dfind_at {l : List (ME PK)} {ak : PK} : ∀ {i : Nat} {v : Value}, dfind l ak = some (i, v) → ∃ p, l[i]? = some p ∧ p.ky = ak ∧ p.vl = v := by
  induction l with
  | nil => intro i v h; simp [dfind] at h
  | cons q l ih =>
    intro i v h
    unfold dfind at h
    by_cases c : ak = q.ky
    · rw [if_pos c] at h
      simp only [Option.some.injEq, Prod.mk.injEq] at h
      obtain ⟨rfl, rfl⟩ := h
      exact ⟨q, rfl, c.symm, rfl⟩
    · rw [if_neg c] at h
      cases e : dfind l ak with
      | none => rw [e] at h; simp at h
      | some x =>
        rw [e] at h
        simp only [Option.map_some, Option.some.injEq, Prod.mk.injEq] at h
        obtain ⟨rfl, rfl⟩ := h
        obtain ⟨p, h1, h2, h3⟩ := ih e
        exact ⟨p, by simpa using h1, h2, h3⟩
theorem dfind_no {l : List (ME PK)} {ak : PK} (h : dfind l ak = none) : ∀ p, p ∈ l → p.ky ≠ ak := by
  induction l with
  | nil => intro p hp; simp at hp
  | cons q l ih =>
    intro p hp
    unfold dfind at h
    by_cases c : ak = q.ky
    · rw [if_pos c] at h; cases h
    · rw [if_neg c] at h
      rcases List.mem_cons.1 hp with rfl | hp
      · exact fun e => c e.symm
      · refine ih ?_ p hp
        cases e : dfind l ak with
        | none => rfl
        | some x => rw [e] at h; simp at h
theorem fnd_iff {l : List Rt} (hs : Srt l) {a n : Int} : fnd l a n = true ↔ ∃ r, r ∈ l ∧ r.a = a ∧ r.l = n := by
  constructor
  · intro h
    obtain ⟨r, h1, h2, h3⟩ := fnd_true h
    exact ⟨r, List.mem_of_getElem? h1, h2, h3⟩
  · rintro ⟨r, hr, h1, h2⟩
    obtain ⟨j, hj⟩ := List.getElem?_of_mem hr
    obtain ⟨s1, s2⟩ := fp_spec (a := a) (n := n) ((srt_pw l).1 hs)
    have hn : ¬ j < fp l a n := fun c => by
      have := s1 j r c hj
      unfold lessR at this
      omega
    have hlt : fp l a n < l.length := by
      have := (List.getElem?_eq_some_iff.1 hj).1
      omega
    have h0 : l[fp l a n]? = some l[fp l a n] := List.getElem?_eq_getElem hlt
    rw [fnd_some rfl h0]
    by_cases e : j = fp l a n
    · rw [e] at hj
      rw [hj] at h0
      injection h0 with h0
      rw [← h0]
      simp [h1, h2]
    · have := hs (fp l a n) j _ r (by omega) h0 hj
      rw [h1, h2] at this
      exact absurd this (s2 _ _ (Nat.le_refl _) h0)
theorem DRel.len {l : List (ME PK)} {nb : Nat} {rs : List Rt} (h : DRel l nb rs) : l.length = rs.length := by
  have := h.pm.length_eq
  simpa using this
theorem DRel.isV {l : List (ME PK)} {nb : Nat} {rs : List Rt} (h : DRel l nb rs) {p : ME PK} (hp : p ∈ l) : ∃ r, r ∈ rs ∧ p.ky = rk r ∧ p.vl = .int .u8 r.v := by
  have h1 : kvM p ∈ rs.map kvR := h.pm.mem_iff.1 (List.mem_map.2 ⟨p, hp, rfl⟩)
  obtain ⟨r, h2, h3⟩ := List.mem_map.1 h1
  unfold kvR kvM at h3
  injection h3 with h4 h5
  exact ⟨r, h2, h4.symm, h5.symm⟩
theorem DRel.back {l : List (ME PK)} {nb : Nat} {rs : List Rt} (h : DRel l nb rs) {r : Rt} (hr : r ∈ rs) : ∃ p, p ∈ l ∧ p.ky = rk r ∧ p.vl = .int .u8 r.v := by
  have h1 : kvR r ∈ l.map kvM := h.pm.mem_iff.2 (List.mem_map.2 ⟨r, hr, rfl⟩)
  obtain ⟨p, h2, h3⟩ := List.mem_map.1 h1
  unfold kvR kvM at h3
  injection h3 with h4 h5
  exact ⟨p, h2, h4, h5⟩
/-- a prefix is in the map iff it is in the sorted list -/
theorem DRel.no {l : List (ME PK)} {nb : Nat} {rs : List Rt} (h : DRel l nb rs) (hs : Srt rs) (hr : ∀ r, r ∈ rs → RtOk r) {ak : PK} : (dget l ak).isSome = fnd rs ((ak.1.1 : Nat) : Int) ((ak.2.1 : Nat) : Int) := by
  cases e : dfind l ak with
  | none =>
    have h1 : dget l ak = none := by unfold dget; rw [e]; rfl
    rw [h1]
    cases c : fnd rs ((ak.1.1 : Nat) : Int) ((ak.2.1 : Nat) : Int) with
    | false => rfl
    | true =>
      obtain ⟨r, h2, h3, h4⟩ := (fnd_iff hs).1 c
      obtain ⟨p, h5, h6, _⟩ := h.back h2
      have h7 := rk_val (hr r h2)
      refine absurd ?_ (dfind_no e p h5)
      rw [h6]
      refine Prod.ext (Fin.ext ?_) (Fin.ext ?_)
      · omega
      · omega
  | some x =>
    obtain ⟨i, v⟩ := x
    have h1 : dget l ak = some v := by unfold dget; rw [e]; rfl
    rw [h1]
    obtain ⟨p, h2, h3, h4⟩ := dfind_at e
    obtain ⟨r, h5, h6, h7⟩ := h.isV (List.mem_of_getElem? h2)
    have h8 := rk_val (hr r h5)
    rw [← h6, h3] at h8
    exact ((fnd_iff hs).2 ⟨r, h5, h8.1.symm, h8.2.symm⟩).symm
/-- what the map says of a prefix -/
theorem DRel.val {l : List (ME PK)} {nb : Nat} {rs : List Rt} (h : DRel l nb rs) (hs : Srt rs) (hr : ∀ r, r ∈ rs → RtOk r) {ak : PK} {i : Nat} {v : Value} (hf : dfind l ak = some (i, v)) :
    ∃ r, rs[fp rs ((ak.1.1 : Nat) : Int) ((ak.2.1 : Nat) : Int)]? = some r ∧ r.a = ((ak.1.1 : Nat) : Int) ∧ r.l = ((ak.2.1 : Nat) : Int) ∧ v = .int .u8 r.v ∧ ∃ p, l[i]? = some p ∧ kvM p = kvR r := by
  have h0 : fnd rs ((ak.1.1 : Nat) : Int) ((ak.2.1 : Nat) : Int) = true := by
    rw [← h.no hs hr]
    unfold dget
    rw [hf]
    rfl
  obtain ⟨r, h1, h2, h3⟩ := fnd_true h0
  obtain ⟨p, h4, h5, h6⟩ := dfind_at hf
  obtain ⟨r', h7, h8, h9⟩ := h.isV (List.mem_of_getElem? h4)
  have hm := List.mem_of_getElem? h1
  have h10 := rk_val (hr r' h7)
  rw [← h8, h5] at h10
  have h11 : r' = r := by
    have hp := (srt_pw rs).1 hs
    obtain ⟨j, hj⟩ := List.getElem?_of_mem h7
    by_cases e : j = fp rs ((ak.1.1 : Nat) : Int) ((ak.2.1 : Nat) : Int)
    · rw [← e, hj] at h1; injection h1
    · rcases Nat.lt_or_gt_of_ne e with c | c
      · have := hs _ _ _ _ c hj h1
        unfold lessR at this
        omega
      · have := hs _ _ _ _ c h1 hj
        unfold lessR at this
        omega
  subst h11
  exact ⟨_, h1, h2, h3, by rw [← h6, h9], p, h4, by unfold kvM kvR; rw [h8, h9]⟩
theorem DRel.ins {l : List (ME PK)} {nb : Nat} {rs : List Rt} (h : DRel l nb rs) (r : Rt) (i : Nat) : DRel (l ++ [⟨rk r, .int .u8 r.v, nb⟩]) (nb + 1) (rs.take i ++ r :: rs.drop i) where
  lt := fun p hp => by
    rcases List.mem_append.1 hp with hp | hp
    · have := h.lt p hp; omega
    · rw [List.mem_singleton.1 hp]; exact Nat.lt_succ_self _
  nd := by
    rw [List.map_append]
    refine List.nodup_append.2 ⟨h.nd, by simp, fun x hx y hy e => ?_⟩
    obtain ⟨p, hp, rfl⟩ := List.mem_map.1 hx
    have h2 := h.lt p hp
    have h3 : y = nb := by simpa using hy
    omega
  pm := by
    rw [List.map_append]
    have h1 : (rs.take i ++ r :: rs.drop i).Perm (r :: rs) := by
      refine List.perm_middle.trans (List.Perm.cons _ ?_)
      rw [List.take_append_drop]
    refine List.Perm.trans ?_ ((h1.map kvR).symm)
    refine List.perm_append_comm.trans ?_
    exact List.Perm.cons _ h.pm
theorem erase_perm {α : Type} {l : List α} {i : Nat} {x : α} (h : l[i]? = some x) : l.Perm (x :: l.eraseIdx i) := by
  induction l generalizing i with
  | nil => simp at h
  | cons y l ih =>
    cases i with
    | zero => simp at h; subst h; simp
    | succ i =>
      have h1 := ih (i := i) (by simpa using h)
      rw [List.eraseIdx_cons_succ]
      exact (List.Perm.cons _ h1).trans (List.Perm.swap _ _ _)
theorem DRel.del {l : List (ME PK)} {nb : Nat} {rs : List Rt} (h : DRel l nb rs) {i j : Nat} {p : ME PK} {r : Rt} (hi : l[i]? = some p) (hj : rs[j]? = some r) (e : kvM p = kvR r) : DRel (l.eraseIdx i) nb (rs.take j ++ rs.drop (j + 1)) where
  lt := fun q hq => h.lt q (List.mem_of_mem_eraseIdx hq)
  nd := List.Sublist.nodup ((List.eraseIdx_sublist l i).map ME.bo) h.nd
  pm := by
    have h1 := (erase_perm hi).map kvM
    have h2 := (erase_perm hj).map kvR
    have h3 := (h1.symm.trans h.pm).trans h2
    rw [List.map_cons, List.map_cons, e] at h3
    rw [← List.eraseIdx_eq_take_drop_succ]
    exact (List.perm_cons _).1 h3
theorem DRel.nil : DRel [] 0 [] := ⟨fun _ h => by simp at h, by simp, by simp⟩
/-- the model's network, with its places -/
structure Nw where
  mb : Nat → Nat
  av : Nat → Value
  rs : Nat → List (ME PK)
  nb : Nat → Nat
  ifc : Nat → Nat → Bool
  lk : Nat → Nat → Bool
def Nw.cells (N : Nw) : List Value := arrL 544 (nmC (mvF N.mb) N.av N.ifc N.lk)
structure NwR (N : Nw) (P : Pl) : Prop where
  dr : ∀ d, d < 16 → DRel (N.rs d) (N.nb d) (P.rs d)
  ib : ∀ d p, d < 16 → p < 16 → N.ifc d p = bitF (P.ifc d) (p : Int)
  lb : ∀ d p, d < 16 → p < 16 → N.lk d p = bitF (P.link d) (p : Int)
  l8 : ∀ d, d < 16 → ∀ r, r ∈ P.rs d → r.l ≤ 8
theorem NwR.rs' {N : Nw} {P : Pl} (h : NwR N P) {d : Nat} (hd : d < 16) {l : List (ME PK)} {nb : Nat} {rs : List Rt} (h1 : DRel l nb rs) (h8 : ∀ r, r ∈ rs → r.l ≤ 8) : NwR { N with rs := upd N.rs d l, nb := upd N.nb d nb } { P with rs := upd P.rs d rs } where
  dr := fun j hj => by
    show DRel (upd N.rs d l j) (upd N.nb d nb j) (upd P.rs d rs j)
    by_cases e : j = d
    · rw [e, upd_same, upd_same, upd_same]; exact h1
    · rw [upd_other _ _ e, upd_other _ _ e, upd_other _ _ e]; exact h.dr j hj
  ib := h.ib
  lb := h.lb
  l8 := fun j hj r hr => by
    change r ∈ upd P.rs d rs j at hr
    by_cases e : j = d
    · rw [e, upd_same] at hr; exact h8 r hr
    · rw [upd_other _ _ e] at hr; exact h.l8 j hj r hr
theorem NwR.av' {N : Nw} {P : Pl} (h : NwR N P) (av : Nat → Value) (al : Nat → List Rl) : NwR { N with av := av } { P with al := al } := ⟨h.dr, h.ib, h.lb, h.l8⟩
theorem NwR.ifc' {N : Nw} {P : Pl} (h : NwR N P) {d p : Nat} (hd : d < 16) (hp : p < 16) (ok : POk P) (up : Bool) : NwR { N with ifc := upd2 N.ifc d p up } (ifcP P d (setF (P.ifc d) p up)) where
  dr := h.dr
  ib := fun i j hi hj => by
    show upd2 N.ifc d p up i j = bitF (upd P.ifc d (setF (P.ifc d) p up) i) j
    unfold upd2
    by_cases e : i = d
    · rw [e, upd_same, setF_bit p hp up j hj]
      by_cases e2 : j = p
      · rw [if_pos ⟨rfl, e2⟩, if_pos e2]
      · rw [if_neg (fun c => e2 c.2), if_neg e2, h.ib d j hd hj, bitF_bv (ok.ifc d hd) j hj]
    · rw [if_neg (fun c => e c.1), upd_other _ _ e]; exact h.ib i j hi hj
  lb := h.lb
  l8 := h.l8
theorem NwR.lk' {N : Nw} {P : Pl} (h : NwR N P) {d p : Nat} (hd : d < 16) (hp : p < 16) (ok : POk P) (up : Bool) : NwR { N with lk := upd2 N.lk d p up } (Qxb6500907a.lnk P d (setF (P.link d) p up)) where
  dr := h.dr
  ib := h.ib
  lb := fun i j hi hj => by
    show upd2 N.lk d p up i j = bitF (upd P.link d (setF (P.link d) p up) i) j
    unfold upd2
    by_cases e : i = d
    · rw [e, upd_same, setF_bit p hp up j hj]
      by_cases e2 : j = p
      · rw [if_pos ⟨rfl, e2⟩, if_pos e2]
      · rw [if_neg (fun c => e2 c.2), if_neg e2, h.lb d j hd hj, bitF_bv (ok.lnk d hd) j hj]
    · rw [if_neg (fun c => e c.1), upd_other _ _ e]; exact h.lb i j hi hj
  l8 := h.l8

end Go.Proofs.Qxb6500907a

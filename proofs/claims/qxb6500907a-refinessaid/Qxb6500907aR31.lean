import Derived.Test.Qxb6500907aR30
namespace Go.Proofs.Qxb6500907a
open Go.Eng
set_option linter.unusedVariables false
set_option linter.unusedSimpArgs false

/-! ## one change of the model's tables against one change of the layer's -/
def StR (kn : Nat) (N : Nw) (P : Pl) (c : Ch) (d : Nat) (v : Value) (F' : List (Nat × Obj)) : Prop :=
  ((doP P c).2.2 ≠ 0 ∧ v = .tuple #[.agg ⟨(⟨0, 0, 0, 0, false, 0, 0, 0, false, 0, 0, 0⟩ : Ch).vals⟩, .int .u8 (doP P c).2.2]) ∨
  ((doP P c).2.2 = 0 ∧ v = .tuple #[.agg ⟨(doP P c).2.1.vals⟩, .int .u8 0] ∧ ∃ N' E, NwR N' (doP P c).1 ∧ N'.mb = N.mb ∧ (∀ j, j ≠ d → N'.rs j = N.rs j ∧ N'.nb j = N.nb j ∧ N'.av j = N.av j) ∧
    ((N'.av d = N.av d ∧ (doP P c).1.al d = P.al d ∧ E = []) ∨ RowA (N'.av d) ((doP P c).1.al d) E) ∧ F' = (kn, C N'.cells 116) :: (N.mb d, MD pkV (N'.rs d) (N'.nb d)) :: E)
theorem StR.bad {kn : Nat} {N : Nw} {P P' : Pl} {c u : Ch} {d : Nat} {code : Int} {F' : List (Nat × Obj)} (h : doP P c = (P', u, code)) (h0 : code ≠ 0) : StR kn N P c d (.tuple #[.agg ⟨(⟨0, 0, 0, 0, false, 0, 0, 0, false, 0, 0, 0⟩ : Ch).vals⟩, .int .u8 code]) F' := by
  unfold StR
  rw [h]
  exact .inl ⟨h0, rfl⟩
theorem StR.good {kn : Nat} {N N' : Nw} {P P' : Pl} {c u : Ch} {d : Nat} {E : List (Nat × Obj)} (h : doP P c = (P', u, 0)) (hN : NwR N' P') (hm : N'.mb = N.mb) (hj : ∀ j, j ≠ d → N'.rs j = N.rs j ∧ N'.nb j = N.nb j ∧ N'.av j = N.av j) (ha : (N'.av d = N.av d ∧ P'.al d = P.al d ∧ E = []) ∨ RowA (N'.av d) (P'.al d) E) :
    StR kn N P c d (.tuple #[.agg ⟨u.vals⟩, .int .u8 0]) ((kn, C N'.cells 116) :: (N.mb d, MD pkV (N'.rs d) (N'.nb d)) :: E) := by
  unfold StR
  rw [h]
  exact .inr ⟨rfl, rfl, N', E, hN, hm, hj, ha, rfl⟩
theorem row_kind {v : Value} {al : List Rl} {E : List (Nat × Obj)} (h : RowA v al E) : (v = .slice none 0 0 ∧ al = [] ∧ E = []) ∨ ∃ b cap junk, v = .slice (some ⟨b, 0, none⟩) al.length cap ∧ al.length ≤ cap ∧ E = [(b, C (fl Rl.vals al ++ junk) 55)] := by
  unfold RowA at h
  rcases h with ⟨h1, h2, h3, h4⟩ | ⟨b, cap', junk, h1, _, h3, h4, h5⟩
  · exact .inl ⟨h1, List.length_eq_zero_iff.1 h2, h4⟩
  · exact .inr ⟨b, cap', junk, h1, h4, h5⟩
theorem row_sl {v : Value} {al : List Rl} {E : List (Nat × Obj)} (h : RowA v al E) : ∃ q ac, v = .slice q al.length ac := by
  rcases row_kind h with ⟨h1, h2, _⟩ | ⟨b, cap, junk, h1, _⟩
  · subst h2; exact ⟨_, _, h1⟩
  · exact ⟨_, _, h1⟩
theorem ck_l8 {c : Ch} (h : ckF c = 0) : c.rl ≤ 8 := by
  obtain ⟨_, _, _, _, _, _, _, ⟨hg1, hg2⟩, _, _⟩ := (ck_iff c).1 h
  unfold gpF at hg1
  simp at hg1
  omega
theorem ck_ix {c : Ch} (h : ckF c = 0) : c.ix < 64 := by
  obtain ⟨_, _, _, _, _, _, _, ⟨hg1, hg2⟩, h9, _⟩ := (ck_iff c).1 h
  omega
theorem ins_mem9 {α : Type} {l : List α} {x r : α} {i : Nat} (h : x ∈ l.take i ++ r :: l.drop i) : x = r ∨ x ∈ l := by
  rcases List.mem_append.1 h with h | h
  · exact .inr (List.mem_of_mem_take h)
  · rcases List.mem_cons.1 h with h | h
    · exact .inl h
    · exact .inr (List.mem_of_mem_drop h)
theorem del_mem {α : Type} {l : List α} {x : α} {i j : Nat} (h : x ∈ l.take i ++ l.drop j) : x ∈ l := by
  rcases List.mem_append.1 h with h | h
  · exact List.mem_of_mem_take h
  · exact List.mem_of_mem_drop h
theorem NwR.len {N : Nw} {P : Pl} (h : NwR N P) (hP : POk P) {d : Nat} (hd : d < 16) : (N.rs d).length ≤ 1000 ∧ (P.al d).length ≤ 1000 ∧ (N.rs d).length = (P.rs d).length := by
  have h1 := (h.dr d hd).len
  have h2 := hP.len d hd
  omega
theorem stepR0 {P : Pl} {N : Nw} (hP : POk P) (hN : NwR N P) {kn d : Nat} (hd : d < 16) {Ea : List (Nat × Obj)} (ha : RowA (N.av d) (P.al d) Ea) {ra rl via : Int} (hra : 0 ≤ ra ∧ ra ≤ 255) (hrl : 0 ≤ rl ∧ rl ≤ 255) (hvia : 0 ≤ via ∧ via ≤ 255) (h8 : rl ≤ 8) (pr ix : Int) (up pm : Bool) (da dl cl : Int) :
    SpK Try.prog 47 #[.pointer (some ⟨kn, 0, none⟩), .agg ⟨(⟨0, (d : Int), pr, ix, up, ra, rl, via, pm, da, dl, cl⟩ : Ch).vals⟩] (Mem Ea) [(kn, C N.cells 116), (N.mb d, MD pkV (N.rs d) (N.nb d))] (StR kn N P ⟨0, (d : Int), pr, ix, up, ra, rl, via, pm, da, dl, cl⟩ d) := by
  obtain ⟨q, ac, hq⟩ := row_sl ha
  obtain ⟨l1, l2, l3⟩ := hN.len hP hd
  have hk := rk_val (r := ⟨ra, rl, via⟩) ⟨hra, hrl, hvia⟩
  have h := step0 kn N.mb N.av N.ifc N.lk d hd (N.rs d) (N.nb d) l1 (P.al d) q ac hq l2 (rk ⟨ra, rl, via⟩) pr ix up via pm da dl cl
  rw [hk.1, hk.2, (hN.dr d hd).no (hP.srt d hd) (hP.rr d hd), hk.1, hk.2] at h
  refine spK_post h (fun _ _ => trivial) ?_
  rintro v F' (⟨h1, rfl, rfl⟩ | ⟨h1, h2, rfl, rfl⟩ | ⟨h1, h2, rfl, rfl⟩)
  · refine ⟨_, [], StR.bad (P' := P) (u := u0 ⟨0, (d : Int), pr, ix, up, ra, rl, via, pm, da, dl, cl⟩) (code := 13) ?_ (by decide), List.Perm.of_eq (List.append_nil _).symm⟩
    unfold doP; rw [if_pos rfl, if_pos]; exact h1
  · refine ⟨_, [], StR.bad (P' := P) (u := u0 ⟨0, (d : Int), pr, ix, up, ra, rl, via, pm, da, dl, cl⟩) (code := 15) ?_ (by decide), List.Perm.of_eq (List.append_nil _).symm⟩
    unfold doP; rw [if_pos rfl, if_neg, if_pos]
    · show 64 ≤ (P.rs d).length + (P.al d).length
      omega
    · show ¬ fnd (P.rs d) ra rl = true
      rw [h1]; decide
  · refine ⟨_, [], StR.good (N' := { N with rs := upd N.rs d (N.rs d ++ [⟨rk ⟨ra, rl, via⟩, .int .u8 via, N.nb d⟩]), nb := upd N.nb d (N.nb d + 1) }) (P' := insR P d ⟨ra, rl, via⟩) (u := ⟨1, (d : Int), 0, 0, false, ra, rl, 0, false, 0, 0, 0⟩) ?_ ?_ rfl ?_ (.inl ⟨rfl, rfl, rfl⟩), ?_⟩
    · refine do0_eq h1 (by omega)
    · exact hN.rs' hd ((hN.dr d hd).ins ⟨ra, rl, via⟩ _) fun r hr => by
        rcases ins_mem9 hr with rfl | hr
        · exact h8
        · exact hN.l8 d hd r hr
    · intro j hj
      exact ⟨upd_other _ _ hj, upd_other _ _ hj, rfl⟩
    · rw [List.append_nil]
      show List.Perm _ ((kn, C _ 116) :: (N.mb d, MD pkV (upd N.rs d _ d) (upd N.nb d _ d)) :: [])
      rw [upd_same, upd_same]
      exact List.Perm.refl _
theorem stepR1 {P : Pl} {N : Nw} (hP : POk P) (hN : NwR N P) {kn d : Nat} (hd : d < 16) {Ea : List (Nat × Obj)} (ha : RowA (N.av d) (P.al d) Ea) {ra rl via : Int} (hra : 0 ≤ ra ∧ ra ≤ 255) (hrl : 0 ≤ rl ∧ rl ≤ 255) (hvia : 0 ≤ via ∧ via ≤ 255) (pr ix : Int) (up pm : Bool) (da dl cl : Int) :
    SpK Try.prog 47 #[.pointer (some ⟨kn, 0, none⟩), .agg ⟨(⟨1, (d : Int), pr, ix, up, ra, rl, via, pm, da, dl, cl⟩ : Ch).vals⟩] (Mem Ea) [(kn, C N.cells 116), (N.mb d, MD pkV (N.rs d) (N.nb d))] (StR kn N P ⟨1, (d : Int), pr, ix, up, ra, rl, via, pm, da, dl, cl⟩ d) := by
  obtain ⟨q, ac, hq⟩ := row_sl ha
  obtain ⟨l1, l2, l3⟩ := hN.len hP hd
  have hk := rk_val (r := ⟨ra, rl, via⟩) ⟨hra, hrl, hvia⟩
  have hD := hN.dr d hd
  have h := step1 kn N.mb N.av N.ifc N.lk d hd (N.rs d) (N.nb d) l1 (P.al d) q ac hq l2 (rk ⟨ra, rl, via⟩) pr ix up via pm da dl cl (fun i v hf => by
    obtain ⟨r, _, _, _, h4, _⟩ := hD.val (hP.srt d hd) (hP.rr d hd) hf
    exact ⟨_, h4⟩)
  rw [hk.1, hk.2, hD.no (hP.srt d hd) (hP.rr d hd), hk.1, hk.2] at h
  refine spK_post h (fun _ _ => trivial) ?_
  rintro v F' (⟨h1, rfl, rfl⟩ | ⟨i, v9, h1, rfl, rfl⟩)
  · refine ⟨_, [], StR.bad (P' := P) (u := u0 ⟨1, (d : Int), pr, ix, up, ra, rl, via, pm, da, dl, cl⟩) (code := 14) ?_ (by decide), List.Perm.of_eq (List.append_nil _).symm⟩
    unfold doP; rw [if_neg (by simp), if_pos rfl, if_neg]
    show ¬ fnd (P.rs d) ra rl = true
    rw [h1]; decide
  · obtain ⟨r, g1, g2, g3, g4, p, g5, g6⟩ := hD.val (hP.srt d hd) (hP.rr d hd) h1
    rw [hk.1] at g1 g2
    rw [hk.2] at g1 g3
    injection g4 with _ g4
    simp only at g1 g2 g3
    have hf : fnd (P.rs d) ra rl = true := by rw [fnd_some rfl g1, g2, g3]; simp
    refine ⟨_, [], StR.good (N' := { N with rs := upd N.rs d ((N.rs d).eraseIdx i), nb := upd N.nb d (N.nb d) }) (P' := delR P d (fp (P.rs d) ra rl)) (u := ⟨0, (d : Int), 0, 0, false, ra, rl, v9, false, 0, 0, 0⟩) ?_ ?_ rfl ?_ (.inl ⟨rfl, rfl, rfl⟩), ?_⟩
    · unfold doP
      rw [if_neg (by simp), if_pos rfl]
      show (if fnd (P.rs d) ra rl = true then match (P.rs d)[fp (P.rs d) ra rl]? with
        | some r => (delR P d (fp (P.rs d) ra rl), (⟨0, (d : Int), 0, 0, false, r.a, r.l, r.v, false, 0, 0, 0⟩ : Ch), (0 : Int))
        | none => (P, u0 _, 14) else (P, u0 _, 14)) = _
      rw [if_pos hf, g1]
      simp only
      rw [g2, g3, g4]
    · exact hN.rs' hd (hD.del g5 g1 g6) fun r hr => hN.l8 d hd r (del_mem hr)
    · intro j hj
      exact ⟨upd_other _ _ hj, upd_other _ _ hj, rfl⟩
    · rw [List.append_nil]
      show List.Perm _ ((kn, C _ 116) :: (N.mb d, MD pkV (upd N.rs d _ d) (upd N.nb d _ d)) :: [])
      rw [upd_same, upd_same]
      exact List.Perm.refl _
theorem stepR2 {P : Pl} {N : Nw} (hP : POk P) (hN : NwR N P) {kn d : Nat} (hd : d < 16) {Ea : List (Nat × Obj)} (ha : RowA (N.av d) (P.al d) Ea) (hne : ∀ x, x ∈ Ea → x.1 ≠ kn ∧ x.1 ≠ N.mb d) {ix : Int} (hix : 0 ≤ ix ∧ ix ≤ 255) (pr : Int) (up : Bool) (ra rl via : Int) (pm : Bool) (da dl cl : Int) :
    SpK Try.prog 47 #[.pointer (some ⟨kn, 0, none⟩), .agg ⟨(⟨2, (d : Int), pr, ix, up, ra, rl, via, pm, da, dl, cl⟩ : Ch).vals⟩] (Mem Ea) [(kn, C N.cells 116), (N.mb d, MD pkV (N.rs d) (N.nb d))] (StR kn N P ⟨2, (d : Int), pr, ix, up, ra, rl, via, pm, da, dl, cl⟩ d) := by
  obtain ⟨l1, l2, l3⟩ := hN.len hP hd
  obtain ⟨xi, rfl⟩ : ∃ xi : Nat, ix = (xi : Int) := ⟨ix.toNat, by omega⟩
  have hD : doP P ⟨2, (d : Int), pr, (xi : Int), up, ra, rl, via, pm, da, dl, cl⟩ = if (P.al d).length < xi then (P, u0 ⟨2, (d : Int), pr, (xi : Int), up, ra, rl, via, pm, da, dl, cl⟩, 10) else if 64 ≤ (P.rs d).length + (P.al d).length then (P, u0 ⟨2, (d : Int), pr, (xi : Int), up, ra, rl, via, pm, da, dl, cl⟩, 15) else (insA P d xi ⟨pm, da, dl, cl⟩, ⟨3, (d : Int), 0, (xi : Int), false, 0, 0, 0, false, 0, 0, 0⟩, 0) := by
    unfold doP
    rw [if_neg (by simp), if_neg (by simp), if_pos rfl]
    rfl
  rcases row_kind ha with ⟨e1, e2, e3⟩ | ⟨b, cap, junk, e1, e2, e3⟩
  · rw [e2, List.length_nil] at hD
    have h := step2n kn N.mb N.av N.ifc N.lk d hd (N.rs d) (N.nb d) l1 e1 xi (by omega) pr up ra rl via pm da dl cl
    refine spK_post h (fun _ _ => trivial) ?_
    rintro v F' (⟨h1, rfl, rfl⟩ | ⟨h1, h2, rfl, rfl⟩ | ⟨h1, h2, lv, E, h3, rfl, rfl⟩)
    · exact ⟨_, [], StR.bad (hD.trans (if_pos h1)) (by decide), List.Perm.of_eq (List.append_nil _).symm⟩
    · exact ⟨_, [], StR.bad (hD.trans ((if_neg (by omega)).trans (if_pos (by omega)))) (by decide), List.Perm.of_eq (List.append_nil _).symm⟩
    · refine ⟨_, [], StR.good (N' := { N with av := upd N.av d lv }) (hD.trans ((if_neg (by omega)).trans (if_neg (by omega)))) (hN.av' _ _) rfl (fun j hj => ⟨rfl, rfl, upd_other _ _ hj⟩) (E := E) (.inr ?_), List.Perm.of_eq (List.append_nil _).symm⟩
      show RowA (upd N.av d lv d) (upd P.al d _ d) E
      rw [upd_same, upd_same, e2]
      simpa using h3
  · subst e3
    have h := step2 kn N.mb N.av N.ifc N.lk d hd (N.rs d) (N.nb d) l1 (P.al d) b cap junk e1 e2 l2 (hne _ (List.mem_singleton.2 rfl)) xi (by omega) pr up ra rl via pm da dl cl
    refine spK_post h (fun _ h => h) ?_
    rintro v F' (⟨h1, rfl, rfl⟩ | ⟨h1, h2, rfl, rfl⟩ | ⟨h1, h2, lv, E, h3, rfl, rfl⟩)
    · exact ⟨_, [], StR.bad (hD.trans (if_pos h1)) (by decide), List.Perm.of_eq (List.append_nil _).symm⟩
    · exact ⟨_, [], StR.bad (hD.trans ((if_neg (by omega)).trans (if_pos (by omega)))) (by decide), List.Perm.of_eq (List.append_nil _).symm⟩
    · refine ⟨_, [], StR.good (N' := { N with av := upd N.av d lv }) (hD.trans ((if_neg (by omega)).trans (if_neg (by omega)))) (hN.av' _ _) rfl (fun j hj => ⟨rfl, rfl, upd_other _ _ hj⟩) (E := E) (.inr ?_), List.Perm.of_eq (List.append_nil _).symm⟩
      show RowA (upd N.av d lv d) (upd P.al d _ d) E
      rw [upd_same, upd_same]
      simpa using h3
theorem stepR3 {P : Pl} {N : Nw} (hP : POk P) (hN : NwR N P) {kn d : Nat} (hd : d < 16) {Ea : List (Nat × Obj)} (ha : RowA (N.av d) (P.al d) Ea) (hne : ∀ x, x ∈ Ea → x.1 ≠ kn ∧ x.1 ≠ N.mb d) {ix : Int} (hix : 0 ≤ ix ∧ ix ≤ 254) (pr : Int) (up : Bool) (ra rl via : Int) (pm : Bool) (da dl cl : Int) :
    SpK Try.prog 47 #[.pointer (some ⟨kn, 0, none⟩), .agg ⟨(⟨3, (d : Int), pr, ix, up, ra, rl, via, pm, da, dl, cl⟩ : Ch).vals⟩] (Mem Ea) [(kn, C N.cells 116), (N.mb d, MD pkV (N.rs d) (N.nb d))] (StR kn N P ⟨3, (d : Int), pr, ix, up, ra, rl, via, pm, da, dl, cl⟩ d) := by
  obtain ⟨l1, l2, l3⟩ := hN.len hP hd
  obtain ⟨xi, rfl⟩ : ∃ xi : Nat, ix = (xi : Int) := ⟨ix.toNat, by omega⟩
  have hD : doP P ⟨3, (d : Int), pr, (xi : Int), up, ra, rl, via, pm, da, dl, cl⟩ = match (P.al d)[xi]? with
      | some r => (delA P d xi, ⟨2, (d : Int), 0, (xi : Int), false, 0, 0, 0, r.pm, r.a, r.l, r.c⟩, 0)
      | none => (P, u0 ⟨3, (d : Int), pr, (xi : Int), up, ra, rl, via, pm, da, dl, cl⟩, 10) := by
    unfold doP
    rw [if_neg (by simp), if_neg (by simp), if_neg (by simp), if_pos rfl]
    rfl
  rcases row_kind ha with ⟨e1, e2, e3⟩ | ⟨b, cap, junk, e1, e2, e3⟩
  · have h := step3n kn N.mb N.av N.ifc N.lk d hd (N.rs d) (N.nb d) l1 e1 xi (by omega) pr up ra rl via pm da dl cl
    refine spK_post h (fun _ _ => trivial) ?_
    rintro v F' ⟨rfl, rfl⟩
    rw [show (P.al d)[xi]? = none by rw [e2]; rfl] at hD
    exact ⟨_, [], StR.bad hD (by decide), List.Perm.of_eq (List.append_nil _).symm⟩
  · subst e3
    have h := step3 kn N.mb N.av N.ifc N.lk d hd (N.rs d) (N.nb d) l1 (P.al d) b cap junk e1 e2 l2 (hne _ (List.mem_singleton.2 rfl)) xi (by omega) pr up ra rl via pm da dl cl
    refine spK_post h (fun _ h => h) ?_
    rintro v F' (⟨h1, rfl, rfl⟩ | ⟨r, lv, E, h1, h3, rfl, rfl⟩)
    · rw [List.getElem?_eq_none h1] at hD
      exact ⟨_, [], StR.bad hD (by decide), List.Perm.of_eq (List.append_nil _).symm⟩
    · rw [h1] at hD
      refine ⟨_, [], StR.good (N' := { N with av := upd N.av d lv }) hD (hN.av' _ _) rfl (fun j hj => ⟨rfl, rfl, upd_other _ _ hj⟩) (E := E) (.inr ?_), List.Perm.of_eq (List.append_nil _).symm⟩
      show RowA (upd N.av d lv d) (upd P.al d _ d) E
      rw [upd_same, upd_same]
      exact h3
theorem stepR4 {P : Pl} {N : Nw} (hP : POk P) (hN : NwR N P) {kn d : Nat} (hd : d < 16) {Ea : List (Nat × Obj)} (ha : RowA (N.av d) (P.al d) Ea) {p : Nat} (hp : p < 16) (ix : Int) (up : Bool) (ra rl via : Int) (pm : Bool) (da dl cl : Int) :
    SpK Try.prog 47 #[.pointer (some ⟨kn, 0, none⟩), .agg ⟨(⟨4, (d : Int), (p : Int), ix, up, ra, rl, via, pm, da, dl, cl⟩ : Ch).vals⟩] (Mem Ea) [(kn, C N.cells 116), (N.mb d, MD pkV (N.rs d) (N.nb d))] (StR kn N P ⟨4, (d : Int), (p : Int), ix, up, ra, rl, via, pm, da, dl, cl⟩ d) := by
  obtain ⟨q, ac, hq⟩ := row_sl ha
  obtain ⟨l1, l2, l3⟩ := hN.len hP hd
  have h := step4 kn N.mb N.av N.ifc N.lk d hd (N.rs d) (N.nb d) l1 (P.al d) q ac hq l2 p hp ix up ra rl via pm da dl cl
  refine spK_post h (fun _ _ => trivial) ?_
  rintro v F' ⟨rfl, rfl⟩
  have h1 := hN.lk' hd hp hP up
  have h2 := h1.lk' hp hd (hP.lnk' d _ _ up) up
  refine ⟨_, [], StR.good (N' := { N with lk := upd2 (upd2 N.lk d p up) p d up }) (u := ⟨4, (d : Int), (p : Int), 0, N.lk d p, 0, 0, 0, false, 0, 0, 0⟩) ?_ h2 rfl (fun j hj => ⟨rfl, rfl, rfl⟩) (E := []) (.inl ⟨rfl, rfl, rfl⟩), List.Perm.of_eq (List.append_nil _).symm⟩
  unfold doP
  rw [if_neg (by simp), if_neg (by simp), if_neg (by simp), if_neg (by simp), if_pos rfl, hN.lb d p hd hp]
  rfl
theorem stepR5 {P : Pl} {N : Nw} (hP : POk P) (hN : NwR N P) {kn d : Nat} (hd : d < 16) {Ea : List (Nat × Obj)} (ha : RowA (N.av d) (P.al d) Ea) {p : Nat} (hp : p < 16) (ix : Int) (up : Bool) (ra rl via : Int) (pm : Bool) (da dl cl : Int) :
    SpK Try.prog 47 #[.pointer (some ⟨kn, 0, none⟩), .agg ⟨(⟨5, (d : Int), (p : Int), ix, up, ra, rl, via, pm, da, dl, cl⟩ : Ch).vals⟩] (Mem Ea) [(kn, C N.cells 116), (N.mb d, MD pkV (N.rs d) (N.nb d))] (StR kn N P ⟨5, (d : Int), (p : Int), ix, up, ra, rl, via, pm, da, dl, cl⟩ d) := by
  obtain ⟨q, ac, hq⟩ := row_sl ha
  obtain ⟨l1, l2, l3⟩ := hN.len hP hd
  have h := step5 kn N.mb N.av N.ifc N.lk d hd (N.rs d) (N.nb d) l1 (P.al d) q ac hq l2 p hp ix up ra rl via pm da dl cl
  refine spK_post h (fun _ _ => trivial) ?_
  rintro v F' ⟨rfl, rfl⟩
  refine ⟨_, [], StR.good (N' := { N with ifc := upd2 N.ifc d p up }) (u := ⟨5, (d : Int), (p : Int), 0, N.ifc d p, 0, 0, 0, false, 0, 0, 0⟩) ?_ (hN.ifc' hd hp hP up) rfl (fun j hj => ⟨rfl, rfl, rfl⟩) (E := []) (.inl ⟨rfl, rfl, rfl⟩), List.Perm.of_eq (List.append_nil _).symm⟩
  unfold doP
  rw [if_neg (by simp), if_neg (by simp), if_neg (by simp), if_neg (by simp), if_neg (by simp), if_pos rfl, hN.ib d p hd hp]
  rfl
/-- the model's step -/
theorem stepM {P : Pl} {N : Nw} (hP : POk P) (hN : NwR N P) (c : Ch) (ok : c.ok) (hck : ckF c = 0) {kn d : Nat} (hdv : c.dv = (d : Int)) {Ea : List (Nat × Obj)} (ha : RowA (N.av d) (P.al d) Ea) (hne : ∀ x, x ∈ Ea → x.1 ≠ kn ∧ x.1 ≠ N.mb d) :
    SpK Try.prog 47 #[.pointer (some ⟨kn, 0, none⟩), .agg ⟨c.vals⟩] (Mem Ea) [(kn, C N.cells 116), (N.mb d, MD pkV (N.rs d) (N.nb d))] (StR kn N P c d) := by
  have h8 := ck_l8 hck
  obtain ⟨q1, q2, q3⟩ := ck_facts ok hck
  obtain ⟨kd, dv, pr, ix, up, ra, rl, via, pm, da, dl, cl⟩ := c
  simp only at hdv h8 q1 q2 q3
  subst hdv
  have hd : d < 16 := by omega
  have o1 := ok.ra
  have o2 := ok.rl
  have o3 := ok.via
  have o4 := ok.ix
  have o5 := ok.kd
  have o6 := ok.pr
  simp only at o1 o2 o3 o4 o5 o6
  by_cases k0 : kd = 0
  · subst k0; exact stepR0 hP hN hd ha o1 o2 o3 h8 pr ix up pm da dl cl
  by_cases k1 : kd = 1
  · subst k1; exact stepR1 hP hN hd ha o1 o2 o3 pr ix up pm da dl cl
  by_cases k2 : kd = 2
  · subst k2; exact stepR2 hP hN hd ha hne o4 pr up ra rl via pm da dl cl
  by_cases k3 : kd = 3
  · subst k3; exact stepR3 hP hN hd ha hne ⟨o4.1, by have := ck_ix hck; simp only at this; omega⟩ pr up ra rl via pm da dl cl
  obtain ⟨p, rfl⟩ : ∃ p : Nat, pr = (p : Int) := ⟨pr.toNat, by omega⟩
  have hp : p < 16 := by have := q3 (by omega); omega
  by_cases k4 : kd = 4
  · subst k4; exact stepR4 hP hN hd ha hp ix up ra rl via pm da dl cl
  · obtain rfl : kd = 5 := by omega
    exact stepR5 hP hN hd ha hp ix up ra rl via pm da dl cl

end Go.Proofs.Qxb6500907a

import Derived.Test.Qxb6500907aR34
import Derived.Test.Qxb6500907aR31
import Derived.Test.Qxb6500907aR32
namespace Go.Proofs.Qxb6500907a
open Go.Eng
set_option linter.unusedVariables false
set_option linter.unusedSimpArgs false

/-! ## the model's Apply -/
section rets
variable {P : Program} {n : Nat} {L : List (Nat × Value)} {a : Act} {w : World} {D : List Nat} {w0 : World} {F : List (Nat × Obj)}
theorem f_retTCTT {fn : Func} {R : Value → List (Nat × Obj) → Prop} {t t1 t2 t3 : Nat} {ty T' : TypeId} {b m : Nat} {l : List Value} {v1 v2 v3 : Value} {F' G G' : List (Nat × Obj)} (hl : Sl n L a) (hh : Has D w0 F w) (hr : fn.results = #[.tmp t1, .cell t ty, .tmp t2, .tmp t3]) (hv : Go.Eng.look L t = some (.pointer (some ⟨b, 0, none⟩)))
    (ht : aggOk P ty m = true) (hf : Find F b (C l T') G') (hn : l.length = m) (h1 : Go.Eng.look L t1 = some v1) (h2 : Go.Eng.look L t2 = some v2) (h3 : Go.Eng.look L t3 = some v3) (hp : Keeps F F' G) (hR : R (.tuple #[v1, .agg ⟨l⟩, v2, v3]) F') : bodyPost P fn (Post D w0 R) .ret a w :=
  ⟨hl.defers, .tuple #[v1, .agg ⟨l⟩, v2, v3], by simp [results, hr, hl.get t _ hv, hl.get t1 v1 h1, hl.get t2 v2 h2, hl.get t3 v3 h3, asAddr, run_loadVar_C ht (hh.mem b _ hf.mem) hn], F', hR, hh.keep hp⟩
end rets
structure AS where
  i : Nat
  N : Nw
  f : Nat → List (Nat × Obj)
  P : Pl
  us : List Ch
  uv : Value
  Eu : List (Nat × Obj)
structure AI (P0 : Pl) (cs : List Ch) (s : AS) : Prop where
  hi : s.i ≤ cs.length
  st : steps P0 (cs.take s.i) = (s.P, s.us, 0)
  ok : POk s.P
  nr : NwR s.N s.P
  acl : ∀ d, d < 16 → RowA (s.N.av d) (s.P.al d) (s.f d)
  ul : s.us.length = s.i
  uok : ∀ c, c ∈ s.us → c.ok
  row : Row s.uv s.us.length (chs s.us.reverse) 12 57 s.Eu
def AppM (kn : Nat) (P : Pl) (idv : Int) (cs : List Ch) (v : Value) (F' : List (Nat × Obj)) : Prop :=
  (∃ kn' N' P' us uv Eu f, steps P cs = (P', us, 0) ∧ us.length = cs.length ∧ (∀ c, c ∈ us → c.ok) ∧ POk P' ∧ NwR N' P' ∧ (∀ d, d < 16 → RowA (N'.av d) (P'.al d) (f d)) ∧ Row uv us.length (chs us.reverse) 12 57 Eu ∧
    v = .tuple #[.pointer (some ⟨kn', 0, none⟩), .agg ⟨[.int .u32 idv, uv]⟩, .int .i64 (-1), .int .u8 0] ∧ F' = (kn', C N'.cells 116) :: (Eu ++ tabX (nwB N' f))) ∨
  (∃ (i : Nat) (c : Ch) (P1 : Pl) (us : List Ch), cs[i]? = some c ∧ steps P (cs.take i) = (P1, us, 0) ∧ (doP P1 c).2.2 ≠ 0 ∧
    v = .tuple #[.pointer (some ⟨kn, 0, none⟩), .agg ⟨[.int .u32 0, .slice none 0 0]⟩, .int .i64 (i : Int), .int .u8 (doP P1 c).2.2] ∧ F' = [])
theorem row_new {v0 v : Value} {al0 al : List Rl} {E fd : List (Nat × Obj)} (h0 : RowA v0 al0 fd) (h : (v = v0 ∧ al = al0 ∧ E = []) ∨ RowA v al E) : ∃ X G, RowA v al X ∧ (E ++ fd).Perm (X ++ G) := by
  rcases h with ⟨rfl, rfl, rfl⟩ | h
  · exact ⟨fd, [], h0, by simp⟩
  · exact ⟨E, fd, h, List.Perm.refl _⟩
theorem nd_ne {D : List Nat} {w0 w : World} {F G E : List (Nat × Obj)} {x y : Nat × Obj} (h : Has D w0 F w) (hk : Keeps F (x :: y :: E) G) : ∀ z, z ∈ E → z.1 ≠ x.1 ∧ z.1 ≠ y.1 := fun z hz => by
  have h1 := (h.keep hk).nodup
  rw [List.map_cons, List.map_cons, List.nodup_cons, List.nodup_cons] at h1
  refine ⟨fun e => h1.1 ?_, fun e => h1.2.1 ?_⟩
  · rw [← e]; exact List.mem_cons_of_mem _ (List.mem_map.2 ⟨z, hz, rfl⟩)
  · rw [← e]; exact List.mem_map.2 ⟨z, hz, rfl⟩
/-- after a step: the row of the device that counts, the rest forgotten -/
theorem own_step {D : List Nat} {w0 w : World} {F G E fd Eu X Y M : List (Nat × Obj)} {kn d : Nat} {N N' : Nw} {f : Nat → List (Nat × Obj)} (hd : d < 16) (h : Has D w0 F w) (hk : Keeps F (M ++ (kn, C N'.cells 116) :: (N.mb d, MD pkV (N'.rs d) (N'.nb d)) :: (E ++ (fd ++ (Eu ++ tabX (upd (nwB N f) d []))))) G)
    (hX : (E ++ fd).Perm (X ++ Y)) (hm : N'.mb = N.mb) (ho : ∀ j, j ≠ d → N'.rs j = N.rs j ∧ N'.nb j = N.nb j ∧ N'.av j = N.av j) : Has D w0 (M ++ (kn, C N'.cells 116) :: (Eu ++ tabX (nwB N' (upd f d X)))) w := by
  have e1 : nwB N' (upd f d X) = upd (nwB N f) d ((N.mb d, MD pkV (N'.rs d) (N'.nb d)) :: X) := by
    funext j
    unfold nwB
    by_cases e : j = d
    · rw [e, upd_same, upd_same, hm]
    · rw [upd_other _ _ e, upd_other _ _ e, hm, (ho j e).1, (ho j e).2.1]
  rw [e1]
  refine (h.keep hk).keep (G := Y) ⟨?_⟩
  rw [List.append_assoc, List.cons_append]
  refine List.Perm.append_left M (List.Perm.cons _ ?_)
  have h1 := tab_put (f := nwB N f) (X := (N.mb d, MD pkV (N'.rs d) (N'.nb d)) :: X) hd
  refine List.Perm.trans ?_ ((List.Perm.append_left Eu h1).append_right Y)
  rw [← List.append_assoc E, List.cons_append]
  refine List.Perm.trans ?_ ((List.perm_middle (l₁ := Eu)).symm.append_right Y)
  rw [List.cons_append]
  refine List.Perm.cons _ ?_
  refine (hX.append_right _).trans ?_
  rw [List.append_assoc, List.append_assoc]
  have e2 : (X ++ (Y ++ (Eu ++ tabX (upd (nwB N f) d [])))).Perm (X ++ ((Eu ++ tabX (upd (nwB N f) d [])) ++ Y)) := List.Perm.append_left X List.perm_append_comm
  refine e2.trans ?_
  rw [← List.append_assoc, ← List.append_assoc, ← List.append_assoc]
  refine List.Perm.append_right Y ?_
  rw [← List.append_assoc]
  exact List.Perm.append_right _ List.perm_append_comm
theorem own_step2 {D : List Nat} {w0 w : World} {E fd Eu X Y M : List (Nat × Obj)} {kn d : Nat} {N N' : Nw} {f : Nat → List (Nat × Obj)} (hd : d < 16) (h : Has D w0 ((kn, C N'.cells 116) :: (N.mb d, MD pkV (N'.rs d) (N'.nb d)) :: (E ++ (M ++ (fd ++ (Eu ++ tabX (upd (nwB N f) d [])))))) w)
    (hX : (E ++ fd).Perm (X ++ Y)) (hm : N'.mb = N.mb) (ho : ∀ j, j ≠ d → N'.rs j = N.rs j ∧ N'.nb j = N.nb j ∧ N'.av j = N.av j) : Has D w0 (M ++ (kn, C N'.cells 116) :: (Eu ++ tabX (nwB N' (upd f d X)))) w := by
  refine own_step (E := E) (fd := fd) (G := []) hd h ⟨?_⟩ hX hm ho
  have h1 : (((kn, C N'.cells 116) :: (N.mb d, MD pkV (N'.rs d) (N'.nb d)) :: E) ++ M).Perm (M ++ ((kn, C N'.cells 116) :: (N.mb d, MD pkV (N'.rs d) (N'.nb d)) :: E)) := List.perm_append_comm
  have h2 := h1.append_right (fd ++ (Eu ++ tabX (upd (nwB N f) d [])))
  rw [List.append_nil]
  simpa [List.append_assoc] using h2
theorem chs_cons (c : Ch) (l : List Ch) : chs (c :: l) = c.vals ++ chs l := by simp [chs]
theorem chs_all (l : List Ch) : (chs l).all (·.oneCell') = true := by
  induction l with
  | nil => rfl
  | cons c l ih => rw [chs_cons, List.all_append, ih]; rfl
theorem AI.next {P : Pl} {cs : List Ch} {s : AS} (h : AI P cs s) {c u : Ch} {P1 : Pl} (hc : cs[s.i]? = some c) (hdo : doP s.P c = (P1, u, 0)) {N' : Nw} {d : Nat} {X : List (Nat × Obj)} (hck : ckF c = 0) (hcok : c.ok) (hdv : c.dv = (d : Int)) (hN : NwR N' P1) (ho : ∀ j, j ≠ d → N'.rs j = s.N.rs j ∧ N'.nb j = s.N.nb j ∧ N'.av j = s.N.av j) (hX : RowA (N'.av d) (P1.al d) X) {uv : Value} {E : List (Nat × Obj)} (hR : Row uv (1 + s.us.length) (u.vals ++ chs s.us.reverse) 12 57 E) :
    AI P cs ⟨s.i + 1, N', upd s.f d X, P1, s.us ++ [u], uv, E⟩ where
  hi := (List.getElem?_eq_some_iff.1 hc).1
  st := by
    have := steps_next hc h.st (by rw [hdo])
    rw [hdo] at this
    exact this
  ok := by have := (h.ok.doP hcok hck).1; rw [hdo] at this; exact this
  nr := hN
  acl := fun j hj => by
    show RowA (N'.av j) (P1.al j) (upd s.f d X j)
    by_cases e : j = d
    · rw [e, upd_same]; exact hX
    · have h1 := (doP_other s.P c (j := j) (by rw [hdv]; exact e)).2
      rw [hdo] at h1
      rw [upd_other _ _ e, (ho j e).2.2, h1]
      exact h.acl j hj
  ul := by show (s.us ++ [u]).length = s.i + 1; rw [List.length_append, h.ul]; rfl
  uok := fun x hx => by
    rcases List.mem_append.1 hx with hx | hx
    · exact h.uok x hx
    · rw [List.mem_singleton.1 hx]
      have := (h.ok.doP hcok hck).2
      rw [hdo] at this
      exact this
  row := by
    show Row uv (s.us ++ [u]).length (chs (s.us ++ [u]).reverse) 12 57 E
    rw [List.length_append, List.reverse_append, List.reverse_singleton, List.singleton_append, chs_cons, List.length_singleton, Nat.add_comm]
    exact hR
theorem keeps_mid {A T E : List (Nat × Obj)} : Keeps (A ++ T ++ E) (E ++ T) A :=
  ⟨(List.perm_append_comm (l₁ := A ++ T) (l₂ := E)).trans (by rw [List.append_assoc]; exact List.Perm.append_left E List.perm_append_comm)⟩

end Go.Proofs.Qxb6500907a

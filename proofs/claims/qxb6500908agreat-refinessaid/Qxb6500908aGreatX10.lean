import Derived.Test.Qxb6500908aGreatX9
namespace Go.Proofs.Qxb6500908aGreat
open Go.Eng
set_option linter.unusedVariables false
set_option linter.unusedSimpArgs false

attribute [local irreducible] postP

/-! ## a script is played -/
def dp0 (i : Nat) : DeP := ⟨(i : Int), 0, 0, slP np0 i, 0, ⟨#[]⟩, fun _ => false, false⟩
def wp0 (hn : Bool) : WoP := ⟨lp0, none, (List.range 16).map dp0, [], [], [], [], hn⟩
structure LawT (lb : Nat) where
  T : TypeId
  L : (wb : Nat) → LawM lb wb
  hT : ∀ wb, (L wb).T = T
  Q : (wb : Nat) → LawJ (L wb)
  hn : Bool
  x0 : (wb : Nat) → (L wb).X
  F0 : List (Nat × Obj)
  fbind : FuncId
  ffin : FuncId
  dbind : Disp Tryz.prog T "e2e/gatelaw.bind" fbind (.pointer (some ⟨lb, 0, none⟩)) (.pointer (some ⟨lb, 0, none⟩))
  dfin : ∀ wb, Disp Tryz.prog (L wb).T "e2e/gatelaw.finish" ffin (.pointer (some ⟨lb, 0, none⟩)) (.pointer (some ⟨lb, 0, none⟩))
  bind : ∀ wb Z, Sp Tryz.prog fbind #[.pointer (some ⟨lb, 0, none⟩), .pointer (some ⟨wb, 0, none⟩)] F0 (fun v F' => v = .tuple #[] ∧ (L wb).M Z (x0 wb) F')
  fin : ∀ (wb : Nat) (W : WoV) (Z : List (Nat × Obj)) (x : (L wb).X) (F : List (Nat × Obj)) (n : Nat), W.ok Z → (Q wb).J (W.pl [] []) x → WI n (W.pl [] []) → n ≤ 20000000 → (∃ gb g, W.g = some (gb, g)) → (L wb).M Z x F →
    Sp Tryz.prog ffin #[.pointer (some ⟨lb, 0, none⟩)] (F ++ WoV.F wb W Z) (fun v F' => v = .bool true ∧ ∃ (F2 : List (Nat × Obj)) (W' : WoV) (G : List (Nat × Obj)), F' = F2 ++ WoV.F wb W' (Z ++ G))
  start : ∀ wb, (Q wb).J (wp0 hn) (x0 wb)
theorem gf_mem {W : WoV} {Z : List (Nat × Obj)} {y : Nat × Obj} (h : y ∈ Z) : y ∈ W.GF Z := by
  unfold WoV.GF
  split
  · exact List.mem_cons_of_mem _ (List.mem_append_right _ h)
  · unfold GF
    refine List.mem_cons_of_mem _ (List.mem_append_right _ (List.mem_append_right _ (List.mem_cons_of_mem _ (List.mem_append_right _ (List.mem_cons_of_mem _ (List.mem_append_right _ h))))))
/-- a world whose devices are being made -/
def wi (lb0 : Nat) (hn : Bool) (ds : List (Nat × DeV)) : List Value := (.pointer (some ⟨lb0, 0, none⟩) :: .pointer none :: dsC ds) ++ (List.replicate (16 - ds.length) (.pointer none) ++ [.slice none 0 0, .slice none 0 0, .bool hn])
theorem wi_len {lb0 : Nat} {hn : Bool} {ds : List (Nat × DeV)} (h : ds.length ≤ 16) : (wi lb0 hn ds).length = 21 := by
  unfold wi dsC
  simp
  omega
theorem wi_set {lb0 : Nat} {hn : Bool} {ds : List (Nat × DeV)} (h : ds.length < 16) (db : Nat) (d : DeV) : setL (wi lb0 hn ds) (0 + 2 + ds.length * 1) [.pointer (some ⟨db, 0, none⟩)] = wi lb0 hn (ds ++ [(db, d)]) := by
  unfold wi
  rw [show 0 + 2 + ds.length * 1 = (ds.length + 2) + 0 by omega, set_app9 (n := ds.length + 2) (by simp [dsC])]
  rw [show 16 - ds.length = (16 - (ds ++ [(db, d)]).length) + 1 by simp; omega, List.replicate_succ]
  rw [show setL (Value.pointer none :: List.replicate (16 - (ds ++ [(db, d)]).length) (.pointer none) ++ [.slice none 0 0, .slice none 0 0, .bool hn]) 0 [.pointer (some ⟨db, 0, none⟩)] = [.pointer (some ⟨db, 0, none⟩)] ++ (List.replicate (16 - (ds ++ [(db, d)]).length) (.pointer none) ++ [.slice none 0 0, .slice none 0 0, .bool hn]) from rfl]
  rw [← List.append_assoc]
  congr 1
  unfold dsC
  rw [List.map_append]; rfl
theorem wi_full {lb0 : Nat} {l0 : LdV} {hn : Bool} {ds : List (Nat × DeV)} (h : ds.length = 16) : wi lb0 hn ds = WoV.c ⟨lb0, l0, none, ds, [], none, 0, [], [], none, 0, [], hn⟩ := by
  unfold wi WoV.c WoV.t
  rw [h]; rfl
structure DnI (ds : List (Nat × DeV)) : Prop where
  l : ds.length ≤ 16
  ok : ∀ y, y ∈ ds → y.2.ok
  pl : ds.map (fun y => y.2.pl) = (List.range ds.length).map dp0
theorem DnI.next {ds : List (Nat × DeV)} (h : DnI ds) (hl : ds.length < 16) {db : Nat} {d : DeV} (hd : d.ok) (hp : d.pl = dp0 ds.length) : DnI (ds ++ [(db, d)]) :=
  ⟨by simp; omega, fun y hy => by
    rcases List.mem_append.1 hy with h9 | h9
    · exact h.ok y h9
    · rw [List.mem_singleton.1 h9]; exact hd, by
    rw [List.map_append, h.pl, List.length_append, List.length_singleton, List.range_succ, List.map_append]
    simp [hp]⟩
theorem dsF_snoc (ds : List (Nat × DeV)) (db : Nat) (d : DeV) : DsF (ds ++ [(db, d)]) = DsF ds ++ DeV.F db d := by
  unfold DsF
  rw [List.flatMap_append]; simp
theorem w0_ok {Z : List (Nat × Obj)} {lb0 : Nat} {l0 : LdV} (hl : l0.ok Z) {hn : Bool} {ds : List (Nat × DeV)} (h : DnI ds) (h16 : ds.length = 16) : WoV.ok Z ⟨lb0, l0, none, ds, [], none, 0, [], [], none, 0, [], hn⟩ := ⟨hl, fun y hy => (by cases hy), h16, h.ok, ROWB.nil, fun m h => (by cases h), Nat.zero_le _, ROWB.nil, fun m h => (by cases h), Nat.zero_le _⟩
theorem w0_pl {lb0 : Nat} {l0 : LdV} (hp : l0.pl = lp0) {hn : Bool} {ds : List (Nat × DeV)} (h : DnI ds) (h16 : ds.length = 16) : WoV.pl ⟨lb0, l0, none, ds, [], none, 0, [], [], none, 0, [], hn⟩ [] [] = wp0 hn := by
  unfold WoV.pl wp0
  simp only [WoP.mk.injEq, true_and, and_true]
  refine ⟨hp, rfl, ?_⟩
  rw [h.pl, h16]
theorem w0_wi (hn : Bool) : WI 1 (wp0 hn) := ⟨⟨by simp [wp0, lp0, sp0], fun _ => rfl, fun h => absurd rfl h, fun h => by simp [wp0, lp0, sp0] at h, fun h => by simp [wp0, lp0, sp0] at h, fun h => by simp [wp0, lp0, sp0] at h, rfl, fun i c h => (by cases h), List.nodup_nil, Nat.zero_le _, by simp [wp0, lp0, sp0]⟩, fun g h => (by cases h), by simp [wp0, lp0, sp0], by simp [wp0, lp0, sp0]⟩
/-- the steps of the script -/
structure P3I {lb wb : Nat} {L : LawM lb wb} (Q : LawJ L) (Z : List (Nat × Obj)) (N : Nat) (s : P2 L) : Prop where
  j : s.j ≤ N
  ok : s.W.ok s.Zp
  k : Q.J (s.W.pl [] []) s.x
  w : WI (2 + 161 * s.j) (s.W.pl [] [])
  z : ∃ G, s.Zp = Z ++ G
  m : L.M s.Zp s.x s.F
/-- the last recoveries -/
structure P4I {lb wb : Nat} {L : LawM lb wb} (Q : LawJ L) (Z : List (Nat × Obj)) (N : Nat) (s : P2 L) : Prop where
  j : s.j ≤ 2
  ok : s.W.ok s.Zp
  k : Q.J (s.W.pl [] []) s.x
  w : WI (N + s.j) (s.W.pl [] [])
  z : ∃ G, s.Zp = Z ++ G
  m : L.M s.Zp s.x s.F
  t : s.W.g = none → s.j = 0 ∨ (s.j = 1 ∧ s.W.l.pl.fu ≤ 0)
theorem store_fz {l : LdP} {s : StP} (h : l.dn = false) (h2 : ¬ (storeP l s).2 = 0) : (storeP l s).1.fu = 0 := by
  by_cases h1 : 0 < l.fu
  · by_cases h3 : l.fu - 1 = 0
    · cases h4 : l.kp with
      | true => rw [sp_k h h1 h3 h4]
      | false => rw [sp_n h h1 h3 h4]
    · rw [sp_f h h1 h3] at h2; exact absurd rfl h2
  · rw [sp_0 h h1] at h2; exact absurd rfl h2
theorem boot_fz {l : LdP} (h : (bootP l).1 = none) : (bootP l).2.fu = 0 ∧ 0 < l.fu := by
  unfold bootP at h ⊢
  by_cases h2 : (storeP (rebP l) (opS l.d)).2 = 0
  · rw [if_pos h2] at h; cases h
  · refine ⟨store_fz rfl h2, ?_⟩
    rcases store_cs (l := rebP l) (opS l.d) rfl with h3 | h3
    · exact absurd h3.1 h2
    · exact h3.2.2.2
section p34
variable {lb wb : Nat} {L : LawM lb wb} {Q : LawJ L} {Z : List (Nat × Obj)} {N : Nat}
theorem boot_t {W W2 : WoV} (hg : W.g = none) (hpl : ∀ xd xg, W2.pl xd xg = bootW (W.pl xd xg)) (h2 : W2.g = none) : W2.l.pl.fu = 0 ∧ 0 < W.l.pl.fu := by
  have e := hpl [] []
  have e1 : (W2.pl [] []).g = none := by show W2.g.map _ = none; rw [h2]; rfl
  have e2 : (bootP W.l.pl).1 = none := by
    cases hb : (bootP W.l.pl).1 with
    | none => rfl
    | some g =>
      rw [e] at e1
      unfold bootW at e1
      rw [show (W.pl [] []).l = W.l.pl from rfl, hb] at e1
      cases e1
  have h3 := boot_fz e2
  refine ⟨?_, h3.2⟩
  have e4 : (W2.pl [] []).l = (bootP W.l.pl).2 := by
    rw [e]; unfold bootW
    rw [show (W.pl [] []).l = W.l.pl from rfl, e2]
  have e5 : W2.l.pl = (bootP W.l.pl).2 := e4
  rw [e5]; exact h3.1
end p34

end Go.Proofs.Qxb6500908aGreat

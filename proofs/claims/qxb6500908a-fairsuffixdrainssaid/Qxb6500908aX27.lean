import Derived.Test.Qxb6500908aX11
import Derived.Test.Qxb6500908aX12
namespace Go.Proofs.Qxb6500908a
open Go.Eng
set_option linter.unusedVariables false
set_option linter.unusedSimpArgs false

attribute [local irreducible] postP

/-! ## a law's exact progress in a pump -/
structure LawP {lb wb : Nat} (L : LawM lb wb) where
  K0 : WoP → L.X → Prop
  K1 : WoP → L.X → Prop
  K2 : WoP → L.X → Prop
  mv1 : ∀ {n W x}, WI n W → K0 W x → W.xd = [] → W.xg = [] → K1 { W with td := [], xd := W.td } x
  mv2 : ∀ {n W x}, WI n W → K1 W x → W.td = [] → W.xd = [] → W.xg = [] → K2 { W with tg := [], xg := W.tg } x
  skip : ∀ {W x m r}, K2 W x → W.g = none → W.xg = m :: r → K2 { W with xg := r } x
  hand : ∀ {n W x m r d}, WI n W → K1 W x → W.xd = m :: r → W.dv[m.d.toNat]? = some d → K1 (hndW W m r d) x
  feedM : ∀ {n W x g m r}, WI n W → K2 W x → W.g = some g → W.xg = m :: r → ∃ x', L.sawR (ginP g W.l (msgI m)).1.2.d (!(ginP g W.l (msgI m)).1.1.off) x (msgI m) (ginP g W.l (msgI m)).2.1 (ginP g W.l (msgI m)).2.2 (ginP g W.l (msgI m)).1.1.out x' ∧ K2 (fedG { W with xg := r } g (msgI m)) (if (ginP g W.l (msgI m)).1.1.off then L.fellF x' else x')
structure P1J {lb wb : Nat} {L : LawM lb wb} (Q : LawP L) (Z : List (Nat × Obj)) (W : WoV) (n : Nat) (x : L.X) (s : P1) : Prop where
  j : s.j ≤ W.td.length
  ok : (s.w W).ok Z
  k : Q.K1 ((s.w W).pl (W.td.drop s.j) []) x
  w : WI n ((s.w W).pl (W.td.drop s.j) [])
section p1
variable {lb wb : Nat} {L : LawM lb wb} {Q : LawP L} {Z : List (Nat × Obj)} {W : WoV} {n : Nat} {x : L.X}
theorem P1J.start (hW : W.ok Z) (hK : Q.K0 (W.pl [] []) x) (hn : WI n (W.pl [] [])) : P1J Q Z W n x ⟨0, W.ds, W.tg, W.gp, W.gc, W.gE⟩ :=
  ⟨Nat.zero_le _, ⟨hW.l, hW.g, hW.dl, hW.ds, ROWB.nil, fun m h => (by cases h), Nat.zero_le _, hW.r, hW.ro, hW.rl⟩, Q.mv1 hn hK rfl rfl, hn.cg rfl rfl⟩
theorem P1J.next {s : P1} (h : P1J Q Z W n x s) {m : Ms} (hm : W.td[s.j]? = some m) {db : Nat} {d d' : DeV} {p : Option Addr} {c : Nat} {E : List (Nat × Obj)} (hx : s.ds[m.d.toNat]? = some (db, d)) (hd : d'.ok) (hp : d'.pl = (handP d.pl m).1) (hr : ∀ r, (handP d.pl m).2 = some r → r.ok) (hR : ROWB p (postO s.tg (handP d.pl m).2) c E) :
    P1J Q Z W n x ⟨s.j + 1, s.ds.set m.d.toNat (db, d'), postO s.tg (handP d.pl m).2, p, c, E⟩ := by
  have hj := (List.getElem?_eq_some_iff.1 hm).1
  have ho := h.ok
  have hdl : s.ds.length = 16 := ho.dl
  have hk := Q.hand (m := m) (r := W.td.drop (s.j + 1)) (d := d.pl) h.w h.k (drop_at hm) (by show (s.ds.map _)[m.d.toNat]? = _; rw [List.getElem?_map, hx]; rfl)
  refine ⟨by simp only; omega, ?_, ?_, ?_⟩
  · refine WoV.ok.mk ho.l ho.g (by show (s.ds.set _ _).length = 16; rw [List.length_set]; exact hdl) (fun y hy => ?_) ROWB.nil (fun m h => (by cases h)) (Nat.zero_le _) hR (fun m' hm' => ?_) (postO_len ho.rl _)
    · have hy : y ∈ s.ds.set m.d.toNat (db, d') := hy
      rcases mem_set9 hy with h9 | h9
      · exact ho.ds y h9
      · rw [h9]; exact hd
    · have hm' : m' ∈ postO s.tg (handP d.pl m).2 := hm'
      rcases postO_mem hm' with h9 | h9
      · exact ho.ro m' h9
      · exact hr m' h9
  · have e : (P1.w W ⟨s.j + 1, s.ds.set m.d.toNat (db, d'), postO s.tg (handP d.pl m).2, p, c, E⟩).pl (W.td.drop (s.j + 1)) [] = hndW ((s.w W).pl (W.td.drop s.j) []) m (W.td.drop (s.j + 1)) d.pl := by
      unfold hndW WoV.pl P1.w
      simp only [WoP.mk.injEq, true_and, and_true]
      rw [List.map_set, hp]
    rw [e]; exact hk
  · exact h.w.cg rfl rfl
end p1
structure P2J {lb wb : Nat} {L : LawM lb wb} (Q : LawP L) (Z : List (Nat × Obj)) (ms : List Ms) (n : Nat) (s : P2 L) : Prop where
  j : s.j ≤ ms.length
  ok : s.W.ok s.Zp
  k : Q.K2 (s.W.pl [] (ms.drop s.j)) s.x
  w : WI (n + s.j) (s.W.pl [] (ms.drop s.j))
  z : ∃ G, s.Zp = Z ++ G
  m : L.M s.Zp s.x s.F
section p2
variable {lb wb : Nat} {L : LawM lb wb} {Q : LawP L} {Z : List (Nat × Obj)} {W : WoV} {n : Nat}
theorem P2J.start {s : P1} {x : L.X} (h : P1J Q Z W n x s) (hj : s.j = W.td.length) {F : List (Nat × Obj)} (hM : L.M Z x F) : P2J Q Z s.tg n ⟨0, s.w2 W, Z, F, x⟩ := by
  have ho := h.ok
  refine ⟨Nat.zero_le _, ⟨ho.l, ho.g, ho.dl, ho.ds, ho.t, ho.to, ho.tl, ROWB.nil, fun m h => (by cases h), Nat.zero_le _⟩, ?_, h.w.cg rfl rfl, ⟨[], by simp⟩, hM⟩
  have hk := h.k
  rw [hj, List.drop_length] at hk
  exact Q.mv2 (WI.of h.w [] []) hk rfl rfl rfl
theorem P2J.skip {ms : List Ms} {s : P2 L} (h : P2J Q Z ms n s) (hj : s.j < ms.length) (hg : s.W.g = none) : P2J Q Z ms n ⟨s.j + 1, s.W, s.Zp, s.F, s.x⟩ :=
  ⟨by simp only; omega, h.ok, Q.skip (m := ms[s.j]) (r := ms.drop (s.j + 1)) h.k (by show s.W.g.map _ = _; rw [hg]; rfl) (drop_at (List.getElem?_eq_getElem hj)), (h.w.mono (show n + s.j ≤ n + (s.j + 1) by omega)).cg rfl rfl, h.z, h.m⟩
theorem P2J.fed {ms : List Ms} {s : P2 L} (h : P2J Q Z ms n s) {m : Ms} (hm : ms[s.j]? = some m) {gb : Nat} {g : GtV} (hg : s.W.g = some (gb, g)) : ∃ x', L.sawR (ginP g.pl s.W.l.pl (msgI m)).1.2.d (!(ginP g.pl s.W.l.pl (msgI m)).1.1.off) s.x (msgI m) (ginP g.pl s.W.l.pl (msgI m)).2.1 (ginP g.pl s.W.l.pl (msgI m)).2.2 (ginP g.pl s.W.l.pl (msgI m)).1.1.out x' ∧
    ∀ {W' : WoV} {G F2 : List (Nat × Obj)}, W'.ok (s.Zp ++ G) → (∀ xd xg, W'.pl xd xg = fedG (s.W.pl xd xg) g.pl (msgI m)) → L.M (s.Zp ++ G) (if (ginP g.pl s.W.l.pl (msgI m)).1.1.off then L.fellF x' else x') F2 → P2J Q Z ms n ⟨s.j + 1, W', s.Zp ++ G, F2, if (ginP g.pl s.W.l.pl (msgI m)).1.1.off then L.fellF x' else x'⟩ := by
  have hj := (List.getElem?_eq_some_iff.1 hm).1
  have hgp : (s.W.pl [] (ms.drop s.j)).g = some g.pl := by show s.W.g.map _ = _; rw [hg]; rfl
  obtain ⟨x', h1, h2⟩ := Q.feedM h.w h.k hgp (drop_at hm)
  refine ⟨x', h1, fun {W' G F2} hok hpl hM => ⟨by simp only; omega, hok, ?_, ?_, ?_, hM⟩⟩
  · show Q.K2 (W'.pl [] (ms.drop (s.j + 1))) _
    rw [hpl]; exact h2
  · show WI (n + (s.j + 1)) (W'.pl [] (ms.drop (s.j + 1)))
    rw [hpl]
    have h9 := (WI.of h.w [] (ms.drop (s.j + 1))).fed (g := g.pl) (by show s.W.g.map _ = _; rw [hg]; rfl) (msgI m)
    exact h9.mono (by omega)
  · obtain ⟨G0, h0⟩ := h.z
    exact ⟨G0 ++ G, by show s.Zp ++ G = _; rw [h0, List.append_assoc]⟩
end p2
def StepX {lb wb : Nat} {L : LawM lb wb} (R : WoP → L.X → Prop) (Z : List (Nat × Obj)) (n : Nat) (v : Value) (F' : List (Nat × Obj)) : Prop :=
  v = .bool true ∧ ∃ (W' : WoV) (G F2 : List (Nat × Obj)) (x' : L.X), W'.ok (Z ++ G) ∧ R (W'.pl [] []) x' ∧ WI (n + 160) (W'.pl [] []) ∧ L.M (Z ++ G) x' F2 ∧ F' = F2 ++ WoV.F wb W' (Z ++ G)

end Go.Proofs.Qxb6500908a

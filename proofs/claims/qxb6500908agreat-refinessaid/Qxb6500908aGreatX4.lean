import Derived.Test.Qxb6500908aGreatX3
namespace Go.Proofs.Qxb6500908aGreat
open Go.Eng
set_option linter.unusedVariables false
set_option linter.unusedSimpArgs false

attribute [local irreducible] postP

/-! ## what a law keeps -/
def msgI (m : Ms) : InP := ⟨7, 0, 0, [], ⟨0, 0, 0, 0, 0, 0⟩, m⟩
theorem msgI_ok {Z : List (Nat × Obj)} {m : Ms} (h : m.ok) : InOk Z (msgI m) none 0 := ⟨by simp [msgI], by simp [msgI], by simp [msgI], ⟨by simp [msgI], by simp [msgI], by simp [msgI], by simp [msgI], by simp [msgI], by simp [msgI]⟩, h, fun e => absurd e (by simp [msgI]), by simp [msgI]⟩
def hndW (W : WoP) (m : Ms) (r : List Ms) (d : DeP) : WoP := { W with xd := r, dv := W.dv.set m.d.toNat (handP d m).1, tg := postO W.tg (handP d m).2 }
structure LawJ {lb wb : Nat} (L : LawM lb wb) where
  J : WoP → L.X → Prop
  K : WoP → L.X → Prop
  jk : ∀ {W x}, J W x → K W x
  mov : ∀ {W x} {td' xd' tg' xg' : List Ms}, K W x → (∀ m, m ∈ td' ∨ m ∈ xd' → m ∈ W.td ∨ m ∈ W.xd) → (∀ m, m ∈ tg' ∨ m ∈ xg' → m ∈ W.tg ∨ m ∈ W.xg) → K { W with td := td', xd := xd', tg := tg', xg := xg' } x
  hand : ∀ {n W x m r d}, WI n W → K W x → W.xd = m :: r → W.dv[m.d.toNat]? = some d → K (hndW W m r d) x
  feedM : ∀ {n W x g m r}, WI n W → K W x → W.g = some g → W.xg = m :: r → ∃ x', L.sawR (ginP g W.l (msgI m)).1.2.d { (ginP g W.l (msgI m)).1.1 with out := [] } x (msgI m) (ginP g W.l (msgI m)).2.1 (ginP g W.l (msgI m)).2.2 (ginP g W.l (msgI m)).1.1.out x' ∧ K (fedG { W with xg := r } g (msgI m)) (if (ginP g W.l (msgI m)).1.1.off then L.fellF x' else x')
  feedO : ∀ {n W x g} {i : InP}, WI n W → J W x → W.g = some g → ¬ i.k = 7 → ∃ x', L.sawR (ginP g W.l i).1.2.d { (ginP g W.l i).1.1 with out := [] } x i (ginP g W.l i).2.1 (ginP g W.l i).2.2 (ginP g W.l i).1.1.out x' ∧ K (fedG W g i) (if (ginP g W.l i).1.1.off then L.fellF x' else x')
  forge : ∀ {W x m}, W.hn = false → K W x → K { W with xg := m :: W.xg } x
  stub : ∀ {W x} {i : Nat} {d : DeP} (b : Bool), K W x → W.dv[i]? = some d → K { W with dv := W.dv.set i { d with sb := b } } x
  fate : ∀ {W x} {l' : LdP} (k A B : Int), J W x → (l' = { W.l with fu := if 0 < A then A else 0, kp := oddP B } ∧ k = 14 ∨ l' = { W.l with fl := oddP A } ∧ k = 16) → K { W with l := l' } (L.fateF k A B x)
  crash : ∀ {W x}, J W x → K { W with l := { W.l with dn := true, fu := 0 }, g := none } (L.fellF x)
  boot : ∀ {n W x}, WI n W → J W x → W.g = none → ∃ x', L.bootR W.l.d (bootP W.l).2.d (bootP W.l).1.isSome x (sentB (bootP W.l)) x' ∧ J (bootW W) x'
  after : ∀ {n W x}, WI n W → K W x → W.xd = [] → W.xg = [] → ∃ x', L.afterR W x x' ∧ J W x'
theorem WI.cg {n : Nat} {W W' : WoP} (h : WI n W) (h1 : W'.l = W.l) (h2 : W'.g = W.g) : WI n W' := ⟨by rw [h1]; exact h.st, by rw [h1, h2]; exact h.g, by rw [h1]; exact h.vs, by rw [h1]; exact h.ep⟩
theorem WI.of {n : Nat} {W : WoV} {a b : List Ms} (h : WI n (W.pl a b)) (c d : List Ms) : WI n (W.pl c d) := h.cg rfl rfl
theorem gcase (W : WoV) : W.g = none ∨ ∃ gb g, W.g = some (gb, g) := by
  cases h : W.g with
  | none => exact .inl rfl
  | some y => exact .inr ⟨y.1, y.2, rfl⟩
theorem WI.up {n : Nat} {W : WoV} {a b : List Ms} (h : WI n (W.pl a b)) {gb : Nat} {g : GtV} (hg : W.g = some (gb, g)) : GtI g.pl ∧ g.pl.st = W.l.pl.d ∧ W.l.pl.dn = false ∧ g.st.vs.length ≤ n := by
  obtain ⟨h1, h2, h3⟩ := h.g g.pl (by show W.g.map _ = _; rw [hg]; rfl)
  refine ⟨h1, h2, h3, ?_⟩
  have h4 := h.vs
  have h5 : g.pl.st.vs.length = W.l.pl.d.vs.length := by rw [h2]; rfl
  have h6 : g.pl.st.vs.length = g.st.vs.length := List.length_map _
  have h7 : W.l.pl.d.vs.length ≤ n := h4
  omega
/-- the devices' turn of a pump -/
structure P1 where
  j : Nat
  ds : List (Nat × DeV)
  tg : List Ms
  gp : Option Addr
  gc : Nat
  gE : List (Nat × Obj)
def P1.w (W : WoV) (s : P1) : WoV := { W with td := [], tp := none, tc := 0, tE := [], ds := s.ds, tg := s.tg, gp := s.gp, gc := s.gc, gE := s.gE }
def P1.w2 (W : WoV) (s : P1) : WoV := ⟨W.lb, W.l, W.g, s.ds, [], none, 0, [], [], none, 0, [], W.hn⟩
structure P1I {lb wb : Nat} {L : LawM lb wb} (Q : LawJ L) (Z : List (Nat × Obj)) (W : WoV) (n : Nat) (x : L.X) (s : P1) : Prop where
  j : s.j ≤ W.td.length
  ok : (s.w W).ok Z
  k : Q.K ((s.w W).pl (W.td.drop s.j) []) x
  w : WI n ((s.w W).pl (W.td.drop s.j) [])
theorem drop_at {α : Type} {l : List α} {i : Nat} {x : α} (h : l[i]? = some x) : l.drop i = x :: l.drop (i + 1) := by
  obtain ⟨h1, h2⟩ := List.getElem?_eq_some_iff.1 h
  rw [← h2, List.getElem_cons_drop]
theorem mem_set9 {α : Type} {l : List α} {i : Nat} {a x : α} (h : x ∈ l.set i a) : x ∈ l ∨ x = a := by
  rcases List.mem_or_eq_of_mem_set h with h | h
  · exact .inl h
  · exact .inr h
theorem postO_mem {bag : List Ms} {o : Option Ms} {m : Ms} (h : m ∈ postO bag o) : m ∈ bag ∨ o = some m := by
  cases o with
  | none => exact .inl h
  | some r =>
    rcases postP_mem h with h | h
    · exact .inl h
    · exact .inr (by rw [List.mem_singleton.1 h])
theorem postO_len {bag : List Ms} (h : bag.length ≤ 160) (o : Option Ms) : (postO bag o).length ≤ 160 := by
  cases o with
  | none => exact h
  | some r => exact postP_len _ _
section p1
variable {lb wb : Nat} {L : LawM lb wb} {Q : LawJ L} {Z : List (Nat × Obj)} {W : WoV} {n : Nat} {x : L.X}
theorem P1I.start (hW : W.ok Z) (hK : Q.K (W.pl [] []) x) (hn : WI n (W.pl [] [])) : P1I Q Z W n x ⟨0, W.ds, W.tg, W.gp, W.gc, W.gE⟩ :=
  ⟨Nat.zero_le _, ⟨hW.l, hW.g, hW.dl, hW.ds, ROWB.nil, fun m h => (by cases h), Nat.zero_le _, hW.r, hW.ro, hW.rl⟩, Q.mov hK (fun m h => by
    rcases h with h | h
    · cases h
    · exact .inl h) (fun m h => h), hn.cg rfl rfl⟩
theorem P1I.next {s : P1} (h : P1I Q Z W n x s) {m : Ms} (hm : W.td[s.j]? = some m) {db : Nat} {d d' : DeV} {p : Option Addr} {c : Nat} {E : List (Nat × Obj)} (hx : s.ds[m.d.toNat]? = some (db, d)) (hd : d'.ok) (hp : d'.pl = (handP d.pl m).1) (hr : ∀ r, (handP d.pl m).2 = some r → r.ok) (hR : ROWB p (postO s.tg (handP d.pl m).2) c E) :
    P1I Q Z W n x ⟨s.j + 1, s.ds.set m.d.toNat (db, d'), postO s.tg (handP d.pl m).2, p, c, E⟩ := by
  have hj := (List.getElem?_eq_some_iff.1 hm).1
  have ho := h.ok
  have hdl : s.ds.length = 16 := ho.dl
  have hk := Q.hand (m := m) (r := W.td.drop (s.j + 1)) (d := d.pl) h.w h.k (drop_at hm) (by show (s.ds.map _)[m.d.toNat]? = _; rw [List.getElem?_map, hx]; rfl)
  refine ⟨by simp only; omega, ?_, ?_, ?_⟩
  · refine WoV.ok.mk ho.l ho.g (by show (s.ds.set _ _).length = 16; rw [List.length_set]; exact hdl) (fun y hy => ?_) ROWB.nil (fun m h => (by cases h)) (Nat.zero_le _) hR (fun m' hm' => ?_) (postO_len ho.rl _)
    · have hy : y ∈ s.ds.set m.d.toNat (db, d') := hy
      rcases mem_set9 hy with h9 | h9
      · exact ho.ds y h9
      · rw [h9]; exact hd
    · have hm' : m' ∈ postO s.tg (handP d.pl m).2 := hm'
      rcases postO_mem hm' with h9 | h9
      · exact ho.ro m' h9
      · exact hr m' h9
  · have e : (P1.w W ⟨s.j + 1, s.ds.set m.d.toNat (db, d'), postO s.tg (handP d.pl m).2, p, c, E⟩).pl (W.td.drop (s.j + 1)) [] = hndW ((s.w W).pl (W.td.drop s.j) []) m (W.td.drop (s.j + 1)) d.pl := by
      unfold hndW WoV.pl P1.w
      simp only [WoP.mk.injEq, true_and, and_true]
      rw [List.map_set, hp]
    rw [e]; exact hk
  · exact h.w.cg rfl rfl
end p1
/-- the gate's turn -/
structure P2 {lb wb : Nat} (L : LawM lb wb) where
  j : Nat
  W : WoV
  Zp : List (Nat × Obj)
  F : List (Nat × Obj)
  x : L.X
structure P2I {lb wb : Nat} {L : LawM lb wb} (Q : LawJ L) (Z : List (Nat × Obj)) (ms : List Ms) (n : Nat) (s : P2 L) : Prop where
  j : s.j ≤ ms.length
  ok : s.W.ok s.Zp
  k : Q.K (s.W.pl [] (ms.drop s.j)) s.x
  w : WI (n + s.j) (s.W.pl [] (ms.drop s.j))
  z : ∃ G, s.Zp = Z ++ G
  m : L.M s.Zp s.x s.F


section p2
variable {lb wb : Nat} {L : LawM lb wb} {Q : LawJ L} {Z : List (Nat × Obj)} {W : WoV} {n : Nat} {x : L.X}
theorem P2I.start {s : P1} {x : L.X} (h : P1I Q Z W n x s) (hj : s.j = W.td.length) {F : List (Nat × Obj)} (hM : L.M Z x F) : P2I Q Z s.tg n ⟨0, s.w2 W, Z, F, x⟩ := by
  have ho := h.ok
  refine ⟨Nat.zero_le _, ⟨ho.l, ho.g, ho.dl, ho.ds, ho.t, ho.to, ho.tl, ROWB.nil, fun m h => (by cases h), Nat.zero_le _⟩, ?_, h.w.cg rfl rfl, ⟨[], by simp⟩, hM⟩
  have hk := h.k
  rw [hj, List.drop_length] at hk
  exact Q.mov hk (fun m h => h) (fun m h => by
    rcases h with h | h
    · cases h
    · exact .inl h)
theorem P2I.skip {ms : List Ms} {s : P2 L} (h : P2I Q Z ms n s) (hj : s.j < ms.length) : P2I Q Z ms n ⟨s.j + 1, s.W, s.Zp, s.F, s.x⟩ :=
  ⟨by simp only; omega, h.ok, Q.mov h.k (fun m h => h) (fun m h9 => by
    rcases h9 with h9 | h9
    · exact .inl h9
    · refine .inr ?_
      have h9 : m ∈ ms.drop (s.j + 1) := h9
      show m ∈ ms.drop s.j
      rw [drop_at (List.getElem?_eq_getElem hj)]; exact List.mem_cons_of_mem _ h9), (h.w.mono (show n + s.j ≤ n + (s.j + 1) by omega)).cg rfl rfl, h.z, h.m⟩
theorem P2I.fed {ms : List Ms} {s : P2 L} (h : P2I Q Z ms n s) {m : Ms} (hm : ms[s.j]? = some m) {gb : Nat} {g : GtV} (hg : s.W.g = some (gb, g)) : ∃ x', L.sawR (ginP g.pl s.W.l.pl (msgI m)).1.2.d { (ginP g.pl s.W.l.pl (msgI m)).1.1 with out := [] } s.x (msgI m) (ginP g.pl s.W.l.pl (msgI m)).2.1 (ginP g.pl s.W.l.pl (msgI m)).2.2 (ginP g.pl s.W.l.pl (msgI m)).1.1.out x' ∧
    ∀ {W' : WoV} {G F2 : List (Nat × Obj)}, W'.ok (s.Zp ++ G) → (∀ xd xg, W'.pl xd xg = fedG (s.W.pl xd xg) g.pl (msgI m)) → L.M (s.Zp ++ G) (if (ginP g.pl s.W.l.pl (msgI m)).1.1.off then L.fellF x' else x') F2 → P2I Q Z ms n ⟨s.j + 1, W', s.Zp ++ G, F2, if (ginP g.pl s.W.l.pl (msgI m)).1.1.off then L.fellF x' else x'⟩ := by
  have hj := (List.getElem?_eq_some_iff.1 hm).1
  have hgp : (s.W.pl [] (ms.drop s.j)).g = some g.pl := by show s.W.g.map _ = _; rw [hg]; rfl
  obtain ⟨x', h1, h2⟩ := Q.feedM h.w h.k hgp (drop_at hm)
  refine ⟨x', h1, fun {W' G F2} hok hpl hM => ⟨by simp only; omega, hok, ?_, ?_, ?_, hM⟩⟩
  · show Q.K (W'.pl [] (ms.drop (s.j + 1))) _
    rw [hpl]; exact h2
  · show WI (n + (s.j + 1)) (W'.pl [] (ms.drop (s.j + 1)))
    rw [hpl]
    have h9 := (WI.of h.w [] (ms.drop (s.j + 1))).fed (g := g.pl) (by show s.W.g.map _ = _; rw [hg]; rfl) (msgI m)
    exact h9.mono (by omega)
  · obtain ⟨G0, h0⟩ := h.z
    exact ⟨G0 ++ G, by show s.Zp ++ G = _; rw [h0, List.append_assoc]⟩
end p2
end Go.Proofs.Qxb6500908aGreat

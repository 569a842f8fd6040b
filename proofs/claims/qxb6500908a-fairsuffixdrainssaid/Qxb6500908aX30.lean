import Derived.Test.Qxb6500908aX15
import Derived.Test.Qxb6500908aX29
import Derived.Test.Qxb6500908aX26
import Derived.Test.Qxb6500908aY9
namespace Go.Proofs.Qxb6500908a
open Go.Eng
set_option linter.unusedVariables false
set_option linter.unusedSimpArgs false

attribute [local irreducible] postP orB sh1 bitIn handP

/-! ## a fair suffix drains: a round -/
structure FB (W : WoP) (g : GtP) : Prop where
  h : HI W
  fu : W.l.fu ≤ 0
  up : W.g = some g
def Prg (B : Nat) (W : WoP) (g : GtP) (P : Prop) : Prop := Phi W g < B ∨ Phi W g = 0 ∨ (Phi W g ≤ B ∧ ¬ W.l.d.ph = 0 ∧ P)
def FK0 (B : Nat) (W : WoP) : Prop := ∃ g, FB W g ∧ Prg B W g (W.tg = [] ∧ W.td.length ≤ 160 ∧ ∀ d, d < 16 → Bitt W.l.d g d ∨ Pnd W.l.d g.au W.dv d W.td)
def FK1 (B : Nat) (W : WoP) : Prop := ∃ g, FB W g ∧ Prg B W g (W.tg.length + W.xd.length ≤ 160 ∧ ∀ d, d < 16 → Bitt W.l.d g d ∨ (∃ m, m ∈ W.tg ∧ Ans W.l.d g.au d m) ∨ Pnd W.l.d g.au W.dv d W.xd)
def FK2 (B : Nat) (W : WoP) : Prop := ∃ g, FB W g ∧ W.tg = [] ∧ Prg B W g (∀ d, d < 16 → Bitt W.l.d g d ∨ ∃ m, m ∈ W.xg ∧ Ans W.l.d g.au d m)
theorem Prg.imp {B : Nat} {W W' : WoP} {g g' : GtP} {P P' : Prop} (h : Prg B W g P) (e : Phi W' g' = Phi W g) (e2 : W'.l.d.ph = W.l.d.ph) (hp : ¬ W.l.d.ph = 0 → P → P') : Prg B W' g' P' := by
  unfold Prg at h ⊢
  rw [e, e2]
  rcases h with h | h | ⟨h1, h2, h3⟩
  · exact .inl h
  · exact .inr (.inl h)
  · exact .inr (.inr ⟨h1, h2, hp h2 h3⟩)
theorem fk_mv1 {B : Nat} {W : WoP} (h : FK0 B W) : FK1 B { W with td := [], xd := W.td } := by
  obtain ⟨g, ⟨h1, h2, h3⟩, h4⟩ := h
  refine ⟨g, ⟨?_, h2, h3⟩, h4.imp rfl rfl fun _ ⟨a, b, c⟩ => ⟨?_, fun d hd => (c d hd).imp (fun z => z) (fun z => .inr z)⟩⟩
  · exact h1.mov (td := []) (xd := W.td) (tg := W.tg) (xg := W.xg) (fun m hm => .inl (hm.resolve_left List.not_mem_nil)) (fun m hm => hm)
  · show W.tg.length + W.td.length ≤ 160
    rw [a]; simpa using b
theorem fk_hand {B : Nat} {W : WoP} {m : Ms} {r : List Ms} {D : DeP} (h : FK1 B W) (hx : W.xd = m :: r) (hD : W.dv[m.d.toNat]? = some D) : FK1 B (hndW W m r D) := by
  obtain ⟨g, ⟨h1, h2, h3⟩, h4⟩ := h
  refine ⟨g, ⟨h1.hand hx hD, h2, h3⟩, h4.imp rfl rfl fun hp ⟨a, c⟩ => ?_⟩
  rw [hx, List.length_cons] at a
  obtain ⟨k1, k2, k3⟩ := postO_keep (bag := W.tg) (o := (handP D m).2) (by omega)
  refine ⟨?_, fun d hd => ?_⟩
  · show (postO W.tg (handP D m).2).length + r.length ≤ 160
    omega
  · rcases c d hd with z | ⟨m', z1, z2⟩ | z
    · exact .inl z
    · exact .inr (.inl ⟨m', k1 m' z1, z2⟩)
    · rw [hx] at z
      have hm : m ∈ W.td ∨ m ∈ W.xd := .inr (by rw [hx]; exact List.mem_cons_self ..)
      rcases pnd_next h1.h hp (h1.up g h3) hm hD z hd with ⟨x, y1, y2⟩ | y
      · exact .inr (.inl ⟨x, k2 x y1, y2⟩)
      · exact .inr (.inr y)
theorem fk_mv2 {B : Nat} {W : WoP} (h : FK1 B W) (hx : W.xd = []) : FK2 B { W with tg := [], xg := W.tg } := by
  obtain ⟨g, ⟨h1, h2, h3⟩, h4⟩ := h
  refine ⟨g, ⟨?_, h2, h3⟩, rfl, h4.imp rfl rfl fun _ ⟨a, c⟩ d hd => ?_⟩
  · exact h1.mov (td := W.td) (xd := W.xd) (tg := []) (xg := W.tg) (fun m hm => hm) (fun m hm => .inl (hm.resolve_left List.not_mem_nil))
  · rcases c d hd with z | z | ⟨A, m, B', e, _⟩
    · exact .inl z
    · exact .inr z
    · rw [hx] at e
      simp at e
theorem fedG_on {W : WoP} {g : GtP} {i : InP} (h : (ginP g W.l i).1.1.off = false) : fedG W g i = fedW W g i := by unfold fedG; rw [if_neg (by rw [h]; simp)]
theorem fk_feed {B n : Nat} {W : WoP} {g : GtP} {m : Ms} {r : List Ms} (hw : WI n W) (h : FK2 B W) (hg : W.g = some g) (hx : W.xg = m :: r) : FK2 B (fedG { W with xg := r } g (msgI m)) := by
  obtain ⟨g', ⟨h1, h2, h3⟩, h4, h5⟩ := h
  have e : g' = g := by rw [h3] at hg; injection hg
  subst e
  obtain ⟨w1, w2, w3⟩ := hw.g g' hg
  have hm : m ∈ W.tg ∨ m ∈ W.xg := .inr (by rw [hx]; exact List.mem_cons_self ..)
  obtain ⟨D, _, hD⟩ := h1.h.gm m hm
  obtain ⟨p1, p2, p3, p4⟩ := gin_prog (i := msgI m) w1 w2 h2 rfl hD.d (gin_cs w1 w3)
  have hH := h1.feed (i := msgI m) hw hg (fun _ => hm) (xg := r) (fun z hz => by rw [hx]; exact List.mem_cons_of_mem _ hz)
  have eW : fedG { W with xg := r } g' (msgI m) = fedW { W with xg := r } g' (msgI m) := fedG_on p1
  rw [eW] at hH ⊢
  refine ⟨{ (ginP g' W.l (msgI m)).1.1 with out := [] }, ⟨hH, p2, rfl⟩, h4, ?_⟩
  have eP : Phi (fedW { W with xg := r } g' (msgI m)) { (ginP g' W.l (msgI m)).1.1 with out := [] } = 2 * g'.q.length + phV (ginP g' W.l (msgI m)).1.2.d.ph := by rw [← p3]; rfl
  rcases p4 with p4 | ⟨q1, q2, q3, q4⟩
  · unfold Prg
    rw [eP]
    unfold Prg Phi at h5
    left
    rcases h5 with h5 | h5 | h5 <;> omega
  · refine h5.imp (eP.trans (by rw [q1]; rfl)) (by show (ginP g' W.l (msgI m)).1.2.d.ph = _; rw [q1]) fun hp c d hd => ?_
    show Bitt (ginP g' W.l (msgI m)).1.2.d _ d ∨ ∃ m', m' ∈ r ∧ Ans (ginP g' W.l (msgI m)).1.2.d (ginP g' W.l (msgI m)).1.1.au d m'
    rw [q1, q2]
    rcases c d hd with z | ⟨m', z1, z2⟩
    · exact .inl (q3 d hd z)
    · rw [hx] at z1
      rcases List.mem_cons.1 z1 with z1 | z1
      · subst z1
        exact .inl (q4 d hd z2 hp)
      · exact .inr ⟨m', z1, z2⟩
theorem fk_end {B n : Nat} {W : WoP} (hw : WI n W) (h : FK2 B W) (hx : W.xg = []) : ∃ g, FB W g ∧ W.tg = [] ∧ (Phi W g < B ∨ Phi W g = 0) := by
  obtain ⟨g, h1, h4, h5⟩ := h
  obtain ⟨w1, w2, w3⟩ := hw.g g h1.up
  refine ⟨g, h1, h4, ?_⟩
  rcases h5 with h5 | h5 | ⟨_, hp, c⟩
  · exact .inl h5
  · exact .inr h5
  · exfalso
    rw [← w2] at hp c
    have hb : ∀ d, d < 16 → Bitt g.st g d := fun d hd => by
      rcases c d hd with z | ⟨m, z, _⟩
      · exact z
      · rw [hx] at z; cases z
    have := w1.s.p
    by_cases h1 : g.st.ph = 1
    · exact w1.y1 h1 (bits_all w1.y fun d hd => by
        rcases hb d hd with z | z
        · exact z.2
        · exact absurd h1 z.1)
    · exact w1.d2 (by omega) (bits_all w1.d fun d hd => by
        rcases hb d hd with z | z
        · exact absurd z.1 h1
        · exact z.2)
theorem fk_tick {n : Nat} {W : WoP} {g : GtP} {i : InP} (hw : WI n W) (h : FB W g) (hi : i.k = 5) : FK0 (Phi W g + 1) (fedG W g i) ∧ (W.tg = [] → FK0 (Phi W g) (fedG W g i)) := by
  obtain ⟨w1, w2, w3⟩ := hw.g g h.up
  obtain ⟨p1, p2, p3, p4⟩ := gin_tick w1 w2 h.fu hi (gin_cs w1 w3)
  have he := eff (i := i) w1 w2 w3
  have hH := h.h.feed (i := i) hw h.up (fun k => by omega) (xg := W.xg) (fun z hz => hz)
  have hH : HI (fedG W g i) := hH
  have eW : fedG W g i = fedW W g i := fedG_on p1
  rw [eW] at hH ⊢
  have hF : FB (fedW W g i) { (ginP g W.l i).1.1 with out := [] } := ⟨hH, p2, rfl⟩
  have eP : Phi (fedW W g i) { (ginP g W.l i).1.1 with out := [] } = 2 * (ginP g W.l i).1.1.q.length + phV (ginP g W.l i).1.2.d.ph := rfl
  refine ⟨⟨_, hF, .inl ?_⟩, fun ht => ⟨_, hF, ?_⟩⟩
  · rw [eP]; unfold Phi; omega
  · unfold Prg
    rw [eP]
    rcases p4 with q | q | ⟨q1, q2, q3⟩
    · exact .inl q
    · exact .inr (.inl q)
    · refine .inr (.inr ⟨p3, q3, ht, postP_len _ _, fun d hd => ?_⟩)
      obtain ⟨X, hX⟩ := postP_end (bag := W.td) (ms := (ginP g W.l i).1.1.out) (by rw [q1]; have := push_len (ginP g W.l i).1.1; omega)
      have h9 := push_pnd (g := (ginP g W.l i).1.1) (by rw [q2]; exact he.st.p) (by rw [q2]; exact q3) hd X W.dv
      rw [q2, ← q1, ← hX] at h9
      exact h9

end Go.Proofs.Qxb6500908a

import Derived.Test.Qxb6500908aGreatW27
import Derived.Test.Qxb6500908aGreatY2
namespace Go.Proofs.Qxb6500908aGreat
open Go.Eng
set_option linter.unusedVariables false
set_option linter.unusedSimpArgs false

/-! ## a law, as the world sees it -/
def inC (i : InP) (p : Option Addr) (cap : Nat) : List Value := [.int .u8 i.k, .int .u32 i.id, .int .u32 i.i2, .slice p i.tx.length cap, .int .u8 i.v.k, .int .u8 i.v.a, .int .u8 i.v.b, .int .u8 i.v.w, .int .u8 i.v.da, .int .u8 i.v.dl, .int .u8 i.m.k, .int .u8 i.m.d, .int .u32 i.m.e, .int .u32 i.m.b, .bool i.m.y, .int .u32 i.m.r, .int .u32 i.m.s, .string i.m.t]
structure InOk (Z : List (Nat × Obj)) (i : InP) (p : Option Addr) (cap : Nat) : Prop where
  k : i.k = 0 ∨ i.k = 1 ∨ i.k = 2 ∨ i.k = 3 ∨ i.k = 4 ∨ i.k = 5 ∨ i.k = 7 ∨ i.k = 17
  id : 0 ≤ i.id ∧ i.id ≤ 4294967295
  i2 : 0 ≤ i.i2 ∧ i.i2 ≤ 4294967295
  v : i.v.ok
  m : i.m.ok
  t : i.k = 0 → ∃ Sc, SrcL (.slice p i.tx.length cap) i.tx Sc ∧ InZ Sc Z
  tl : i.tx.length ≤ 65536
theorem InOk.app {Z G : List (Nat × Obj)} {i : InP} {p : Option Addr} {cap : Nat} (h : InOk Z i p cap) : InOk (Z ++ G) i p cap := ⟨h.k, h.id, h.i2, h.v, h.m, fun e => (h.t e).imp fun _ y => ⟨y.1, y.2.app⟩, h.tl⟩
def Lw (T : TypeId) (lb : Nat) : Value := .iface T (.pointer (some ⟨lb, 0, none⟩))
structure LawM (lb wb : Nat) where
  T : TypeId
  fsaw : FuncId
  ffell : FuncId
  fboot : FuncId
  ffate : FuncId
  fafter : FuncId
  X : Type
  M : List (Nat × Obj) → X → List (Nat × Obj) → Prop
  sawR : StP → GtP → X → InP → Int → Int → List Ms → X → Prop
  fellF : X → X
  fateF : Int → Int → Int → X → X
  bootR : StP → StP → Bool → X → List Ms → X → Prop
  afterR : WoP → X → X → Prop
  mono : ∀ {Z G : List (Nat × Obj)} {x : X} {F : List (Nat × Obj)}, M Z x F → M (Z ++ G) x F
  dsaw : Disp Tryz.prog T "e2e/gatelaw.saw" fsaw (.pointer (some ⟨lb, 0, none⟩)) (.pointer (some ⟨lb, 0, none⟩))
  dfell : Disp Tryz.prog T "e2e/gatelaw.fell" ffell (.pointer (some ⟨lb, 0, none⟩)) (.pointer (some ⟨lb, 0, none⟩))
  dboot : Disp Tryz.prog T "e2e/gatelaw.booted" fboot (.pointer (some ⟨lb, 0, none⟩)) (.pointer (some ⟨lb, 0, none⟩))
  dfate : Disp Tryz.prog T "e2e/gatelaw.fate" ffate (.pointer (some ⟨lb, 0, none⟩)) (.pointer (some ⟨lb, 0, none⟩))
  dafter : Disp Tryz.prog T "e2e/gatelaw.after" fafter (.pointer (some ⟨lb, 0, none⟩)) (.pointer (some ⟨lb, 0, none⟩))
  saw : ∀ (W : WoV) (Z : List (Nat × Obj)) (x x' : X) (Fx : List (Nat × Obj)) (i : InP) (p : Option Addr) (cap : Nat) (gb : Nat) (g : GtV) (id c : Int) (sent : List Ms) (q : Option Addr) (cq : Nat) (Eq : List (Nat × Obj)),
    W.ok Z → W.g = some (gb, g) → M Z x Fx → InOk Z i p cap → ROWB q sent cq Eq → (∀ m, m ∈ sent → m.ok) → sent.length ≤ 100 → (0 ≤ id ∧ id ≤ 4294967295) → (0 ≤ c ∧ c ≤ 255) → sawR W.l.pl.d g.pl x i id c sent x' →
    Sp Tryz.prog fsaw #[.pointer (some ⟨lb, 0, none⟩), .agg ⟨inC i p cap⟩, .int .u32 id, .int .u8 c, .slice q sent.length cq] (Fx ++ (WoV.F wb W Z ++ Eq)) (fun v F' => v = .bool true ∧ ∃ F2, M Z x' F2 ∧ F' = F2 ++ (WoV.F wb W Z ++ Eq))
  fell : ∀ (Z : List (Nat × Obj)) (x : X) (Fx : List (Nat × Obj)), M Z x Fx → Sp Tryz.prog ffell #[.pointer (some ⟨lb, 0, none⟩)] Fx (fun v F' => v = .tuple #[] ∧ M Z (fellF x) F')
  boot : ∀ (W : WoV) (Z : List (Nat × Obj)) (x x' : X) (Fx : List (Nat × Obj)) (s : StV) (ok : Bool) (sent : List Ms) (q : Option Addr) (cq : Nat) (Eq : List (Nat × Obj)),
    W.ok Z → M Z x Fx → s.ok Z → s.ep < 4294967295 → ROWB q sent cq Eq → (∀ m, m ∈ sent → m.ok) → sent.length ≤ 100 → bootR s.pl W.l.pl.d ok x sent x' →
    Sp Tryz.prog fboot #[.pointer (some ⟨lb, 0, none⟩), .agg ⟨s.c⟩, .bool ok, .slice q sent.length cq] (Fx ++ (s.E ++ (WoV.F wb W Z ++ Eq))) (fun v F' => v = .bool true ∧ ∃ F2, M Z x' F2 ∧ F' = F2 ++ (WoV.F wb W Z ++ Eq))
  fate : ∀ (Z : List (Nat × Obj)) (x : X) (Fx : List (Nat × Obj)) (k A B : Int) (rest : List Value), rest.length = 15 → rest.all (·.oneCell') = true → (0 ≤ k ∧ k ≤ 255) → (-9223372036854775808 ≤ A ∧ A ≤ 9223372036854775807) → (-9223372036854775808 ≤ B ∧ B ≤ 9223372036854775807) → M Z x Fx → Sp Tryz.prog ffate #[.pointer (some ⟨lb, 0, none⟩), .agg ⟨.int .u8 k :: .int .i64 A :: .int .i64 B :: rest⟩] Fx (fun v F' => v = .tuple #[] ∧ M Z (fateF k A B x) F')
  after : ∀ (W : WoV) (Z : List (Nat × Obj)) (x x' : X) (Fx : List (Nat × Obj)), W.ok Z → M Z x Fx → afterR (W.pl [] []) x x' →
    Sp Tryz.prog fafter #[.pointer (some ⟨lb, 0, none⟩)] (Fx ++ WoV.F wb W Z) (fun v F' => v = .bool true ∧ ∃ F2, M Z x' F2 ∧ F' = F2 ++ WoV.F wb W Z)
/-! ## an input, plainly -/
def fedW (W : WoP) (g : GtP) (i : InP) : WoP := { W with l := (ginP g W.l i).1.2, g := some { (ginP g W.l i).1.1 with out := [] }, td := postP W.td (ginP g W.l i).1.1.out }
def fedG (W : WoP) (g : GtP) (i : InP) : WoP := if (ginP g W.l i).1.1.off then { fedW W g i with g := none } else fedW W g i
/-- order and counts -/
structure WI (n : Nat) (W : WoP) : Prop where
  st : StI W.l.d
  g : ∀ g, W.g = some g → GtI g ∧ g.st = W.l.d ∧ W.l.dn = false
  vs : W.l.d.vs.length ≤ n
  ep : W.l.d.ep ≤ (n : Int)
theorem WI.mono {n m : Nat} {W : WoP} (h : WI n W) (hm : n ≤ m) : WI m W := ⟨h.st, h.g, by have := h.vs; omega, by have := h.ep; omega⟩
theorem WI.fed {n : Nat} {W : WoP} {g : GtP} (h : WI n W) (hg : W.g = some g) (i : InP) : WI (n + 1) (fedG W g i) := by
  obtain ⟨h1, h2, h3⟩ := h.g g hg
  have he := eff (i := i) h1 h2 h3
  have hvs : (ginP g W.l i).1.2.d.vs.length ≤ n + 1 := by
    have := h.vs
    rcases he.vs with e | ⟨e, _⟩
    · rw [e, h2]; omega
    · rw [e, List.length_append, h2]; simp; omega
  have hep : (ginP g W.l i).1.2.d.ep ≤ ((n + 1 : Nat) : Int) := by
    have := h.ep
    rw [he.ep, h2]; omega
  unfold fedG
  cases ho : (ginP g W.l i).1.1.off with
  | true => rw [if_pos rfl]; exact ⟨he.st, fun g' h => (by cases h), hvs, hep⟩
  | false =>
    rw [if_neg (by simp)]
    refine ⟨he.st, fun g' h => ?_, hvs, hep⟩
    injection h with h
    subst h
    exact he.up ho
theorem gin_id {g : GtP} {l : LdP} {i : InP} (hg : GtI g) (h : l.dn = false) (hi : ∀ b, parM i.tx = some b → 0 ≤ b.1 ∧ b.1 ≤ 4294967295) : (0 ≤ (ginP g l i).2.1 ∧ (ginP g l i).2.1 ≤ 4294967295) ∧ (0 ≤ (ginP g l i).2.2 ∧ (ginP g l i).2.2 ≤ 255) := by
  have hst : ∀ id, 0 ≤ statP g id ∧ statP g id ≤ 255 := by
    intro id
    cases e : g.st.vd id with
    | some z => rw [sx_v hg.on e]; have := hg.s.vr id z e; omega
    | none =>
      by_cases h2 : ¬ g.st.ph = 0 ∧ g.st.fid = id
      · rw [sx_f hg.on e h2]; omega
      · by_cases h3 : 0 ≤ qix g.q id
        · rw [sx_q hg.on e h2 h3]; omega
        · cases e4 : g.rf id with
          | some c => rw [sx_rf hg.on e h2 h3 e4]; have := hg.rf id c e4; omega
          | none => rw [sx_un hg.on e h2 h3 e4]; omega
  have habc : ∀ c, 0 ≤ abC c ∧ abC c ≤ 255 := by
    intro c
    unfold abC
    repeat' split
    all_goals omega
  have htx : ∀ s, 0 ≤ (txP g l s).2 ∧ (txP g l s).2 ≤ 255 := by
    intro s
    unfold txP
    repeat' split
    all_goals simp
  unfold ginP
  split
  · show (0 ≤ (subP g (parM i.tx)).2.1 ∧ _) ∧ 0 ≤ (subP g (parM i.tx)).2.2 ∧ (subP g (parM i.tx)).2.2 ≤ 255
    cases hp : parM i.tx with
    | none => rw [sb_n hg.on]; simp
    | some b =>
      obtain ⟨id, cs⟩ := b
      have hb := hi _ hp
      by_cases h0 : id = 0
      · rw [sb_z hg.on h0]; simp
      · by_cases hd : Dup g id
        · rw [sb_d hg.on h0 hd]; exact ⟨hb, by simp⟩
        · by_cases hl : 8 ≤ g.q.length
          · rw [sb_f hg.on h0 hd hl]; exact ⟨hb, by simp⟩
          · rw [sb_y hg.on h0 hd hl]; exact ⟨hb, by simp⟩
  split
  · exact ⟨by simp, hst _⟩
  split
  · refine ⟨by simp, ?_⟩
    show 0 ≤ (abortP g l i.id).2 ∧ (abortP g l i.id).2 ≤ 255
    unfold abortP
    split
    · simp
    split
    · split
      · simp
      · exact htx _
    · exact habc _
  split
  · refine ⟨by simp, ?_⟩
    show 0 ≤ (addP g l i.v).2 ∧ (addP g l i.v).2 ≤ 255
    unfold addP
    repeat' split
    all_goals first | exact htx _ | simp
  split
  · refine ⟨by simp, ?_⟩
    show 0 ≤ (dropP g l i.v).2 ∧ (dropP g l i.v).2 ≤ 255
    unfold dropP
    repeat' split
    all_goals first | exact htx _ | simp
  split
  · show (0 ≤ (diffP g i.id i.i2).1 ∧ _) ∧ 0 ≤ (diffP g i.id i.i2).2 ∧ (diffP g i.id i.i2).2 ≤ 255
    unfold diffP
    split
    · simp
    split
    · exact ⟨⟨(dfP_b _ _ _).1, Int.le_trans (dfP_b _ _ _).2 (by omega)⟩, by simp⟩
    · simp
  split
  · simp
  split
  · simp
  · simp
section gins
variable {g : GtP} {l : LdP} {i : InP}
theorem gi_0 (h : i.k = 0) : ginP g l i = (((subP g (parM i.tx)).1, l), (subP g (parM i.tx)).2) := by unfold ginP; rw [if_pos h]
theorem gi_1 (h : i.k = 1) : ginP g l i = ((g, l), 0, statP g i.id) := by unfold ginP; rw [if_neg (by omega), if_pos h]
theorem gi_2 (h : i.k = 2) : ginP g l i = ((abortP g l i.id).1, 0, (abortP g l i.id).2) := by unfold ginP; rw [if_neg (by omega), if_neg (by omega), if_pos h]
theorem gi_3 (h : i.k = 3) : ginP g l i = ((addP g l i.v).1, 0, (addP g l i.v).2) := by unfold ginP; rw [if_neg (by omega), if_neg (by omega), if_neg (by omega), if_pos h]
theorem gi_4 (h : i.k = 4) : ginP g l i = ((dropP g l i.v).1, 0, (dropP g l i.v).2) := by unfold ginP; rw [if_neg (by omega), if_neg (by omega), if_neg (by omega), if_neg (by omega), if_pos h]
theorem gi_17 (h : i.k = 17) : ginP g l i = ((g, l), diffP g i.id i.i2) := by unfold ginP; rw [if_neg (by omega), if_neg (by omega), if_neg (by omega), if_neg (by omega), if_neg (by omega), if_pos h]
theorem gi_5 (h : i.k = 5) : ginP g l i = (tickP g l, 0, 0) := by unfold ginP; rw [if_neg (by omega), if_neg (by omega), if_neg (by omega), if_neg (by omega), if_neg (by omega), if_neg (by omega), if_pos h]
theorem gi_7 (h : i.k = 7) : ginP g l i = (delvP g l i.m, 0, 0) := by unfold ginP; rw [if_neg (by omega), if_neg (by omega), if_neg (by omega), if_neg (by omega), if_neg (by omega), if_neg (by omega), if_neg (by omega), if_pos h]
theorem gi_x (h : ¬ (i.k = 0 ∨ i.k = 1 ∨ i.k = 2 ∨ i.k = 3 ∨ i.k = 4 ∨ i.k = 17 ∨ i.k = 5 ∨ i.k = 7)) : ginP g l i = ((g, l), 0, 0) := by unfold ginP; rw [if_neg (by omega), if_neg (by omega), if_neg (by omega), if_neg (by omega), if_neg (by omega), if_neg (by omega), if_neg (by omega), if_neg (by omega)]
end gins

end Go.Proofs.Qxb6500908aGreat

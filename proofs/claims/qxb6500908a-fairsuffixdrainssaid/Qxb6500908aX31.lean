import Derived.Test.Qxb6500908aX30
namespace Go.Proofs.Qxb6500908a
open Go.Eng
set_option linter.unusedVariables false
set_option linter.unusedSimpArgs false
theorem methUp57_saw : methUp Try.prog 57 "e2e/gatelaw.saw" 110 = true := by kernel_rfl
theorem methUp57_fell : methUp Try.prog 57 "e2e/gatelaw.fell" 100 = true := by kernel_rfl
theorem methUp57_booted : methUp Try.prog 57 "e2e/gatelaw.booted" 109 = true := by kernel_rfl
theorem methUp57_fate : methUp Try.prog 57 "e2e/gatelaw.fate" 99 = true := by kernel_rfl
theorem methUp57_after : methUp Try.prog 57 "e2e/gatelaw.after" 96 = true := by kernel_rfl
def faC (lb wb : Nat) : List (Nat × Obj) := [(lb, C [.pointer (some ⟨wb, 0, none⟩)] 59)]
def faL (lb wb : Nat) : LawM lb wb where
  T := 57
  fsaw := 110
  ffell := 100
  fboot := 109
  ffate := 99
  fafter := 96
  X := Unit
  M := fun _ _ F => F = [(lb, C [.pointer (some ⟨wb, 0, none⟩)] 59)]
  sawR := fun _ _ _ _ _ _ _ _ => True
  fellF := fun x => x
  fateF := fun _ _ _ x => x
  bootR := fun _ _ _ _ _ _ => True
  afterR := fun _ x x' => x' = x
  mono := fun h => h
  dsaw := Disp.up lb methUp57_saw cal110
  dfell := Disp.up lb methUp57_fell cal100
  dboot := Disp.up lb methUp57_booted cal109
  dfate := Disp.up lb methUp57_fate cal99
  dafter := Disp.up lb methUp57_after cal96
  saw := fun W Z x x' Fx i p cap gb g id c sent q cq Eq hW hg hM hi hR hso hsl hid hc hs => sp_mono (b_saw (Fx ++ (WoV.F wb W Z ++ Eq)) lb i p cap _ _ _) fun v F ⟨h1, h2⟩ => ⟨h1, Fx, hM, h2⟩
  fell := fun Z x Fx hM => sp_mono (b_fell Fx lb) fun v F ⟨h3, h4⟩ => ⟨h3, by rw [h4]; exact hM⟩
  boot := fun W Z x x' Fx s ok sent q cq Eq hW hM hs hR hso hsl hb => by
    refine sp_dr (b_boot [] lb s ok _) (G := Fx ++ (s.E ++ (WoV.F wb W Z ++ Eq))) (List.Perm.refl _) fun v F ⟨h1, h2⟩ => ⟨Fx ++ (WoV.F wb W Z ++ Eq), s.E, ⟨h1, Fx, hM, rfl⟩, ⟨?_⟩⟩
    rw [h2, List.nil_append, List.append_assoc]
    exact List.Perm.append_left _ List.perm_append_comm
  fate := fun Z x Fx k A B rest h1 h2 hM => sp_mono (b_fate Fx lb _ (by simp [h1]) (by rw [List.all_cons, List.all_cons, List.all_cons, h2]; rfl)) fun v F ⟨h3, h4⟩ => ⟨h3, by rw [h4]; exact hM⟩
  after := fun W Z x x' Fx hW hM h => sp_mono (b_after (Fx ++ WoV.F wb W Z) lb) fun v F ⟨h3, h4⟩ => ⟨h3, Fx, hM, h4⟩
def faQ (lb wb : Nat) : LawJ (faL lb wb) where
  J := fun W _ => HI W
  K := fun W _ => HI W
  jk := fun h => h
  mov := fun h h1 h2 => h.mov h1 h2
  hand := fun _ h hx hd => h.hand hx hd
  feedM := fun {n W x g m r} hn h hg hx => ⟨(), trivial, h.feed hn hg (fun _ => .inr (by rw [hx]; exact List.mem_cons_self ..)) (fun z hz => by rw [hx]; exact List.mem_cons_of_mem _ hz)⟩
  feedO := fun {n W x g i} hn h hg hk => ⟨(), trivial, h.feed hn hg (fun k => absurd k hk) (fun z hz => hz)⟩
  forge := fun hn h => by rw [h.hn] at hn; cases hn
  stub := fun b h hd => h.stub b hd
  fate := fun _ _ _ h hd _ => h.led hd
  crash := fun h hd => h.fall hd
  boot := fun hn h hg => ⟨(), trivial, h.boot hg⟩
  after := fun _ h _ _ => ⟨(), rfl, h⟩
def faP (lb wb : Nat) (B : Nat) : LawP (faL lb wb) where
  K0 := fun W _ => FK0 B W
  K1 := fun W _ => FK1 B W
  K2 := fun W _ => FK2 B W
  mv1 := fun _ h _ _ => fk_mv1 h
  mv2 := fun _ h _ hx _ => fk_mv2 h hx
  skip := fun h hg _ => by obtain ⟨g, h1, _⟩ := h; rw [h1.up] at hg; cases hg
  hand := fun _ h hx hD => fk_hand h hx hD
  feedM := fun hn h hg hx => ⟨(), trivial, fk_feed hn h hg hx⟩
/-! ## the rounds -/
structure FLS where
  r : Nat
  W : WoV
  Zp : List (Nat × Obj)
structure FLI (Z : List (Nat × Obj)) (n R q0 : Nat) (s : FLS) : Prop where
  ok : s.W.ok s.Zp
  z : ∃ G, s.Zp = Z ++ G
  w : WI (n + 320 * (R - s.r)) (s.W.pl [] [])
  rr : s.r ≤ R
  fb : ∃ gb g, s.W.g = some (gb, g) ∧ FB (s.W.pl [] []) g.pl ∧ ((s.r = R ∧ Phi (s.W.pl [] []) g.pl ≤ 2 * q0 + 2) ∨ (s.W.tg = [] ∧ Phi (s.W.pl [] []) g.pl ≤ s.r))
theorem FLI.rd {Z : List (Nat × Obj)} {n R q0 : Nat} {s : FLS} (h : FLI Z n R q0 s) (hR : R = 40 * (q0 + 1)) (h0 : 0 < s.r) : ∃ B gb g, s.W.g = some (gb, g) ∧ FK0 B (fedG (s.W.pl [] []) g.pl tickI) ∧ ∀ p : Nat, p < B ∨ p = 0 → p ≤ s.r - 1 := by
  obtain ⟨gb, g, h1, h2, h3⟩ := h.fb
  obtain ⟨t1, t2⟩ := fk_tick (i := tickI) h.w h2 rfl
  rcases h3 with ⟨h3, h4⟩ | ⟨h3, h4⟩
  · exact ⟨_, gb, g, h1, t1, fun p hp => by omega⟩
  · exact ⟨_, gb, g, h1, t2 h3, fun p hp => by omega⟩
theorem FLI.next {Z : List (Nat × Obj)} {n R q0 : Nat} {s : FLS} (h : FLI Z n R q0 s) (h0 : 0 < s.r) {B : Nat} (hB : ∀ p : Nat, p < B ∨ p = 0 → p ≤ s.r - 1) {W' : WoV} {G1 G2 : List (Nat × Obj)} (hok : W'.ok ((s.Zp ++ G1) ++ G2)) (hK : FK2 B (W'.pl [] [])) (hw : WI (n + 320 * (R - s.r) + 160 + 160) (W'.pl [] [])) : FLI Z n R q0 ⟨s.r - 1, W', (s.Zp ++ G1) ++ G2⟩ := by
  obtain ⟨G0, hz⟩ := h.z
  have hrr := h.rr
  obtain ⟨g, h1, h2, h3⟩ := fk_end hw hK rfl
  refine ⟨hok, ⟨G0 ++ (G1 ++ G2), by simp only; rw [hz]; simp⟩, hw.mono (by simp only; omega), by simp only; omega, ?_⟩
  have hup := h1.up
  cases hg : W'.g with
  | none => rw [show (W'.pl [] []).g = W'.g.map _ from rfl, hg] at hup; cases hup
  | some y =>
    have e : y.2.pl = g := by rw [show (W'.pl [] []).g = W'.g.map (fun x => x.2.pl) from rfl, hg] at hup; injection hup
    rw [← e] at h1 h3
    exact ⟨y.1, y.2, by first | exact hg | rfl, h1, .inr ⟨h2, hB _ h3⟩⟩
theorem FLI.fin {Z : List (Nat × Obj)} {n R q0 : Nat} {s : FLS} (h : FLI Z n R q0 s) (hR : R = 40 * (q0 + 1)) (h0 : s.r = 0) : ∃ gb g, s.W.g = some (gb, g) ∧ g.q.length = 0 ∧ s.W.l.pl.d.ph = 0 ∧ HI (s.W.pl [] []) := by
  obtain ⟨gb, g, h1, h2, h3⟩ := h.fb
  have hp : Phi (s.W.pl [] []) g.pl = 0 := by
    rcases h3 with h3 | h3
    · omega
    · omega
  unfold Phi at hp
  have hq : g.pl.q.length = 0 := by omega
  have hph : phV s.W.l.pl.d.ph = 0 := by
    have : phV (s.W.pl [] []).l.d.ph = 0 := by omega
    exact this
  refine ⟨gb, g, h1, by rw [← hq]; exact (List.length_map _).symm, ?_, h2.h⟩
  unfold phV at hph
  split at hph
  · omega
  · split at hph
    · assumption
    · omega
theorem gf_led2 (W : WoV) (Z : List (Nat × Obj)) (hW : W.ok Z) (l' : LdV) (hl : l'.d = W.l.d) : ∃ G, (W.GF Z).Perm (LdV.F W.lb W.l ++ G) ∧ (WoV.GF { W with l := l' } Z).Perm (LdV.F W.lb l' ++ G) := by
  unfold WoV.GF
  cases hg : W.g with
  | none => exact ⟨Z, List.Perm.refl _, List.Perm.refl _⟩
  | some y =>
    have hled := (hW.g y hg).2.1
    refine ⟨Z ++ ((y.1, C y.2.c 131) :: (y.2.st.E ++ (y.2.qE ++ ((y.2.rb, MD (kInt .u32) y.2.rl y.2.rn) :: y.2.oE)))), ?_, ?_⟩
    · simp only
      unfold GF LdV.F
      rw [hled]
      have e : (y.1, C y.2.c 131) :: (y.2.st.E ++ (y.2.qE ++ ((y.2.rb, MD (kInt .u32) y.2.rl y.2.rn) :: (y.2.oE ++ ((W.lb, C W.l.c 95) :: (W.l.d.E ++ Z)))))) = ((y.1, C y.2.c 131) :: (y.2.st.E ++ (y.2.qE ++ ((y.2.rb, MD (kInt .u32) y.2.rl y.2.rn) :: y.2.oE)))) ++ ((W.lb, C W.l.c 95) :: (W.l.d.E ++ Z)) := by simp
      rw [e]
      refine List.perm_append_comm.trans ?_
      simp only [List.cons_append, List.append_assoc]
      exact List.Perm.refl _
    · simp only
      unfold GF LdV.F
      rw [hled]
      have e : (y.1, C y.2.c 131) :: (y.2.st.E ++ (y.2.qE ++ ((y.2.rb, MD (kInt .u32) y.2.rl y.2.rn) :: (y.2.oE ++ ((W.lb, C l'.c 95) :: (l'.d.E ++ Z)))))) = ((y.1, C y.2.c 131) :: (y.2.st.E ++ (y.2.qE ++ ((y.2.rb, MD (kInt .u32) y.2.rl y.2.rn) :: y.2.oE)))) ++ ((W.lb, C l'.c 95) :: (l'.d.E ++ Z)) := by simp
      rw [e]
      refine List.perm_append_comm.trans ?_
      simp only [List.cons_append, List.append_assoc]
      exact List.Perm.refl _
def LdV.arm0 (l : LdV) : LdV := { l with fu := if (0 : Int) < 0 then 0 else 0, kp := false }
theorem armW (W : WoV) (Z : List (Nat × Obj)) (hW : W.ok Z) : Sp Try.prog 27 #[.pointer (some ⟨W.lb, 0, none⟩), .int .i64 0, .bool false] (W.GF Z) (fun v F' => v = .tuple #[] ∧ F' = WoV.GF { W with l := W.l.arm0 } Z) := by
  obtain ⟨G, h1, h2⟩ := gf_led2 W Z hW W.l.arm0 rfl
  refine sp_fr (arm_spec Z W.lb W.l hW.l 0 (by decide) false) h1 fun v F2 ⟨h3, h4⟩ => ?_
  exact ⟨_, ⟨h3, rfl⟩, by rw [h4]; exact h2.symm⟩
end Go.Proofs.Qxb6500908a

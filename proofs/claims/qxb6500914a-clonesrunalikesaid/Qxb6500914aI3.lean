import Derived.Test.Qxb6500914aC2
namespace Go.Proofs.Qxb6500914a
open Go.Eng
set_option linter.unusedVariables false
set_option linter.unusedSimpArgs false

/-- the values of a frame in range -/
structure FW (p : PG) : Prop where
  ip : ∀ i, Fits .u64 (p.ip i)
  iv : ∀ i, Fits .u64 (p.iv i)
  cv : Fits .u64 p.cv
  cp : Fits .u64 p.cp
  ra : Fits .u8 p.ra
  rv : Fits .u64 p.rv
  rp : Fits .u64 p.rp
theorem fit0 (k : IntKind) : Fits k 0 := by cases k <;> simp only [Fits] <;> omega
theorem FW.pc {p : PG} (h : FW p) (c : Int) : FW (p.s_pc c) := ⟨h.ip, h.iv, h.cv, h.cp, h.ra, h.rv, h.rp⟩
theorem FW.root {p : PG} (h : FW p) (c : Int) : FW (p.s_root c) := ⟨h.ip, h.iv, h.cv, h.cp, h.ra, h.rv, h.rp⟩
theorem FW.sp {p : PG} (h : FW p) (c : Int) : FW (p.s_sp c) := ⟨h.ip, h.iv, h.cv, h.cp, h.ra, h.rv, h.rp⟩
theorem FW.nn {p : PG} (h : FW p) (c : Int) : FW (p.s_n c) := ⟨h.ip, h.iv, h.cv, h.cp, h.ra, h.rv, h.rp⟩
theorem FW.at_ {p : PG} (h : FW p) (c : Int) : FW (p.s_at_ c) := ⟨h.ip, h.iv, h.cv, h.cp, h.ra, h.rv, h.rp⟩
theorem FW.through {p : PG} (h : FW p) (x y : Int) : FW (throughF p x y) := by
  unfold throughF; split
  · exact ((h.at_ 0).pc x).pc y
  · exact (h.at_ 0).pc x
theorem FW.walked {p : PG} (h : FW p) (x : Int) : FW (walkedF p x) := by
  unfold walkedF; split
  · exact (h.at_ _).pc x
  · exact h.at_ _
theorem FW.sip {p : PG} (h : FW p) (i : Nat) {x : Int} (hx : Fits .u64 x) : FW (p.s_ip i x) := ⟨fits_updF h.ip hx, h.iv, h.cv, h.cp, h.ra, h.rv, h.rp⟩
theorem FW.siv {p : PG} (h : FW p) (i : Nat) {x : Int} (hx : Fits .u64 x) : FW (p.s_iv i x) := ⟨h.ip, fits_updF h.iv hx, h.cv, h.cp, h.ra, h.rv, h.rp⟩
theorem FW.cell {p : PG} (h : FW p) (k : Bool) (j : Nat) {x : Int} (hx : Fits .u64 x) : FW (setCell k p j x) := by
  unfold setCell; split
  · split
    · exact h.sip _ hx
    · exact h.siv _ hx
  · exact h.siv _ hx
theorem FW.cellOk {p : PG} (h : FW p) (k : Bool) (j : Nat) : Fits .u64 (cellV k p j) := by
  unfold cellV; split
  · split
    · exact h.ip _
    · exact h.iv _
  · exact h.iv _
theorem FW.insert {p : PG} (h : FW p) (a nn : Nat) {x y : Int} (hx : Fits .u64 x) (hy : Fits .u64 y) : FW (insertF p a nn x y) := by
  have h1 : FW (shiftUp p a nn) := ⟨fun i => by show Fits .u64 (if _ then _ else _); split <;> exact h.ip _, fun i => by show Fits .u64 (if _ then _ else _); split <;> exact h.iv _, h.cv, h.cp, h.ra, h.rv, h.rp⟩
  exact ((h1.sip a hx).siv a hy).nn _
theorem FW.remove {p : PG} (h : FW p) (a nn : Nat) : FW (removeF p a nn) := by
  have h1 : FW (shiftDn p a nn) := ⟨fun i => by show Fits .u64 (if _ then _ else _); split <;> exact h.ip _, fun i => by show Fits .u64 (if _ then _ else _); split <;> exact h.iv _, h.cv, h.cp, h.ra, h.rv, h.rp⟩
  exact h1.nn _
theorem FW.resp {p : PG} (h : FW p) {x y z : Int} (hx : Fits .u8 x) (hy : Fits .u64 y) (hz : Fits .u64 z) : FW (p.setResp x y z) := ⟨h.ip, h.iv, h.cv, h.cp, hx, hy, hz⟩
theorem FW.apply {p : PG} (h : FW p) (nn : Nat) (ck : Int) {cv cp : Int} (hv : Fits .u64 cv) (hp : Fits .u64 cp) : FW (ARp (applyF p nn ck cv cp)) := by
  unfold ARp
  have u : ∀ c : Int, 0 ≤ c → c ≤ 9 → Fits .u8 c := fun c h1 h2 => by simp only [Fits]; omega
  by_cases h1 : ck = 0 ∨ ck = 1 ∨ ck = 4
  · by_cases h2 : nn = 8
    · rw [applyF_full h1 h2]; exact h.resp (u 3 (by omega) (by omega)) (fit0 _) (fit0 _)
    · rw [applyF_push h1 h2]; exact (h.insert _ nn hp hv).resp (u 0 (by omega) (by omega)) (fit0 _) (fit0 _)
  · by_cases h2 : nn = 0
    · rw [applyF_empty h1 h2]; exact h.resp (u 2 (by omega) (by omega)) (fit0 _) (fit0 _)
    · by_cases h3 : ck = 6
      · rw [applyF_peek h2 h3]; exact h.resp (u 1 (by omega) (by omega)) (h.iv _) (h.ip _)
      · by_cases h4 : ck = 7 ∧ cp < p.ip (atF ck nn)
        · rw [applyF_due h2 h4]; exact h.resp (u 4 (by omega) (by omega)) (fit0 _) (h.ip _)
        · rw [applyF_pop h1 h2 h3 h4]; exact (h.remove _ nn).resp (u 1 (by omega) (by omega)) (h.iv _) (h.ip _)
theorem hd_lt (k : Bool) : hd k + 7 < 4096 := by have := hd_le k; omega
theorem nd_lt (k : Bool) (i j : Nat) (hi : i < 7) (hj : j ≤ 16) : nd k i + j < 4096 := by have := nd_le k i (by omega); omega
theorem MW.load {m : MS} (h : MW m) (ad : Nat) (ha : ad < 4096) : MW (beginF m 1 ad) := h.begin 1 ad (by simp only [Fits]; omega) (by simp only [Fits]; omega)
theorem MW.cas {m : MS} (h : MW m) (ad : Nat) (x y : Int) (ha : ad < 4096) (hy : Fits .u64 y) : MW (casF m ad x y) := by
  unfold casF
  have h1 : MW (beginF m 3 ad) := h.begin 3 ad (by simp only [Fits]; omega) (by simp only [Fits]; omega)
  split
  · exact h1.put y ad hy
  · exact h1
theorem stepF_fw {k : Bool} {t : Nat} {m : MS} {p : PG} (h : PI k t p) (hM : MI m) (hW : MW m) (hF : FW p) : FW (stepF k m p).p ∧ MW (stepF k m p).m := by
  have hpc := h.pc
  have hself : p.self.toNat = t := by have := h.self; omega
  have ht := h.ht
  have hdl := hd_lt k
  rcases (show p.pc = 0 ∨ p.pc = 1 ∨ p.pc = 2 ∨ p.pc = 3 ∨ p.pc = 4 ∨ p.pc = 5 ∨ p.pc = 6 ∨ p.pc = 7 ∨ p.pc = 8 by omega) with e | e | e | e | e | e | e | e | e
  · rw [stepF_0 e, hself]; exact ⟨(hF.sp _).pc 1, hW.load _ (by omega)⟩
  · rw [stepF_1 e]; exact ⟨(hF.root _).pc 2, hW.load _ (by omega)⟩
  · obtain ⟨r, hr, hr1, hr2⟩ := h.root (by omega)
    have hr' : p.root.toNat = r := by omega
    obtain ⟨c, hc, hc8⟩ := hM.cnt k (r % 256) hr2
    rw [stepF_2 e (by rw [hr', hc]; omega), hr']
    exact ⟨(hF.nn _).through 3 4, hW.load _ (nd_lt k _ 0 hr2 (by omega))⟩
  · obtain ⟨r, hr, hr1, hr2⟩ := h.root (by omega)
    have hat := at_lt h (.inl e)
    rw [stepF_3 e, show p.root.toNat = r by omega]
    refine ⟨(hF.cell k _ (hW.word _)).walked 4, hW.load _ ?_⟩
    have := nd_lt k (r % 256) (1 + p.at_.toNat) hr2 (by omega); omega
  · by_cases hw : m.word (hd k) = p.root
    · cases hc : (applyF p p.n.toNat p.ck p.cv p.cp).ch
      · rw [stepF_4c e hw hc]; exact ⟨hF.apply _ _ hF.cv hF.cp, hW.load _ (by omega)⟩
      · rw [stepF_4b e hw hc]; exact ⟨(hF.apply _ _ hF.cv hF.cp).pc 5, hW.load _ (by omega)⟩
    · rw [stepF_4a e hw]; exact ⟨(hF.root _).pc 2, hW.load _ (by omega)⟩
  · obtain ⟨s, hs, hs7⟩ := h.sp (by omega)
    obtain ⟨nn, hn, hn8⟩ := h.n (by omega)
    rw [stepF_5 e, show p.sp.toNat = s by omega]
    exact ⟨hF.through 6 7, hW.store _ _ (by rw [hn]; simp only [Fits]; omega) (nd_lt k s 0 hs7 (by omega))⟩
  · obtain ⟨s, hs, hs7⟩ := h.sp (by omega)
    have hat := at_lt h (.inr e)
    rw [stepF_6 e, show p.sp.toNat = s by omega]
    refine ⟨hF.walked 7, hW.store _ _ (hF.cellOk k _) ?_⟩
    have := nd_lt k s (1 + p.at_.toNat) hs7 (by omega); omega
  · obtain ⟨s, hs, hs7⟩ := h.sp (by omega)
    have hsc := succF_ok p.root.toNat s (by omega)
    have hfit : Fits .u64 ((succF p.root.toNat s : Nat) : Int) := by simp only [Fits]; omega
    by_cases hw : m.word (hd k) = p.root
    · rw [stepF_7a e hw, show p.sp.toNat = s by omega]; exact ⟨hF.pc 8, hW.cas _ _ _ (by omega) hfit⟩
    · rw [stepF_7b e hw, show p.sp.toNat = s by omega]; exact ⟨(hF.root _).pc 2, hW.cas _ _ _ (by omega) hfit⟩
  · obtain ⟨r, hr, hr1, hr2⟩ := h.root (by omega)
    rw [stepF_8 e, hself]
    exact ⟨hF, hW.store _ _ (by simp only [Fits]; omega) (by omega)⟩
structure EvOk (e : Ev) : Prop where
  t : Fits .i64 (e.t : Int)
  ck : Fits .u8 e.ck
  cv : Fits .u64 e.cv
  cp : Fits .u64 e.cp
  ra : Fits .u8 e.ra
  rv : Fits .u64 e.rv
  rp : Fits .u64 e.rp
structure RI (W : WS) : Prop where
  wi : WI W
  mw : MW W.m
  fw : ∀ t x, W.run t = some x → FW x.2
  ck : ∀ t, Fits .u8 (W.ck t)
  cv : ∀ t, Fits .u64 (W.cv t)
  cp : ∀ t, Fits .u64 (W.cp t)
  log : ∀ e, e ∈ W.log → EvOk e
theorem RI.step {W : WS} (h : RI W) (t : Nat) (hb : (W.run t).isSome = true) : RI (stepW W t) := by
  obtain ⟨x, hx⟩ := Option.isSome_iff_exists.1 hb
  obtain ⟨e1, e2⟩ := stepW_some hx
  have hP := h.wi.pi t x hx
  have ht := hP.ht
  obtain ⟨f1, f2⟩ := stepF_fw hP h.wi.mi h.mw (h.fw t x hx)
  have hc : (stepW W t).ck = W.ck ∧ (stepW W t).cv = W.cv ∧ (stepW W t).cp = W.cp := by
    unfold stepW; rw [hx]; dsimp only; split <;> exact ⟨rfl, rfl, rfl⟩
  refine ⟨h.wi.step t, by rw [e1]; exact f2, fun s y hy => ?_, by rw [hc.1]; exact h.ck, by rw [hc.2.1]; exact h.cv, by rw [hc.2.2]; exact h.cp, fun e he => ?_⟩
  · rw [e2] at hy
    by_cases q : s = t
    · subst q
      rw [updF_same] at hy
      cases hr : (stepF x.1 W.m x.2).ret
      · rw [hr, if_neg (by simp)] at hy
        injection hy with hy
        subst hy; exact f1
      · rw [hr, if_pos rfl] at hy; cases hy
    · rw [updF_ne _ _ q] at hy; exact h.fw s y hy
  · unfold stepW at he; rw [hx] at he; dsimp only at he
    split at he
    · rcases List.mem_append.1 he with q | q
      · exact h.log e q
      · have : e = ⟨t, true, W.ck t, W.cv t, W.cp t, (stepF x.1 W.m x.2).p.ra, (stepF x.1 W.m x.2).p.rv, (stepF x.1 W.m x.2).p.rp⟩ := by simpa using q
        subst this
        exact ⟨by simp only [Fits]; omega, h.ck t, h.cv t, h.cp t, f1.ra, f1.rv, f1.rp⟩
    · exact h.log e he
theorem fits_cv (kd : Int) {u : Int} (hu : InR u) : Fits .u64 (cvOf kd u) := by
  unfold cvOf; obtain ⟨h1, h2⟩ := hu
  split <;> simp only [Fits] <;> omega
theorem fits_cp (kd : Int) {u : Int} (hu : InR u) : Fits .u64 (cpOf kd u) := by
  unfold cpOf; obtain ⟨h1, h2⟩ := hu
  split <;> simp only [Fits] <;> omega
theorem RI.inv {W : WS} (h : RI W) (t : Nat) (kd u v : Int) (ht : t < 6) (h0 : 0 ≤ kd) (h7 : kd ≤ 7) (hu : InR u) (hv : InR v) : RI (invokeW W t kd u v) := by
  have f1 := fits_cv kd hu
  have f2 := fits_cp kd hv
  have f0 : Fits .u8 kd := by simp only [Fits]; omega
  refine ⟨h.wi.inv t ht kd u v, h.mw, fun s y hy => ?_, fits_updF h.ck f0, fits_updF h.cv f1, fits_updF h.cp f2, fun e he => ?_⟩
  · have hy' : updF W.run t (some (boxOf kd, startP (boxOf kd) t kd (cvOf kd u) (cpOf kd v))) s = some y := hy
    by_cases q : s = t
    · subst q; rw [updF_same] at hy'; injection hy' with hy'; subst hy'
      exact ⟨fun _ => fit0 _, fun _ => fit0 _, f1, by show Fits .u64 (if _ then _ else _); split; exact f2; exact fit0 _, fit0 _, fit0 _, fit0 _⟩
    · rw [updF_ne _ _ q] at hy'; exact h.fw s y hy'
  · have he' : e ∈ W.log ++ [⟨t, false, kd, cvOf kd u, cpOf kd v, 0, 0, 0⟩] := he
    rcases List.mem_append.1 he' with q | q
    · exact h.log e q
    · have : e = ⟨t, false, kd, cvOf kd u, cpOf kd v, 0, 0, 0⟩ := by simpa using q
      subst this
      exact ⟨by simp only [Fits]; omega, f0, f1, f2, fit0 _, fit0 _, fit0 _⟩
theorem keepRI : Keep RI := ⟨fun _ h => h.wi, fun W t h hb => h.step t hb, fun W t kd u v h _ ht h0 h7 hu hv => h.inv t kd u v ht h0 h7 hu hv⟩
theorem start_RI {m : MS} (h : StartM m) : RI (W0 m) := by
  refine ⟨start_WI h, ?_, fun t x hx => (by cases hx), fun _ => fit0 _, fun _ => fit0 _, fun _ => fit0 _, fun e he => (by cases he)⟩
  obtain ⟨st, m1, h1, h2⟩ := h
  exact h2.pre.mw

end Go.Proofs.Qxb6500914a

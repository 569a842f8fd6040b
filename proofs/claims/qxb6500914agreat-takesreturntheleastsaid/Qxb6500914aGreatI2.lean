import Derived.Test.Qxb6500914aGreatL0
namespace Go.Proofs.Qxb6500914aGreat
open Go.Eng
set_option linter.unusedVariables false
set_option linter.unusedSimpArgs false

def dueV (ck cp ra rp : Int) : Prop := ck = 7 → (ra = 1 → rp ≤ cp) ∧ (ra = 4 → cp < rp)
theorem apply_due (p : PG) (nn : Nat) (ck cv cp : Int) : dueV ck cp (applyF p nn ck cv cp).ra (applyF p nn ck cv cp).rp := by
  intro h7
  have h1 : ¬ (ck = 0 ∨ ck = 1 ∨ ck = 4) := by omega
  by_cases h2 : nn = 0
  · rw [applyF_empty h1 h2]; exact ⟨fun q => absurd q (by show ¬ (2 : Int) = 1; decide), fun q => absurd q (by show ¬ (2 : Int) = 4; decide)⟩
  · by_cases h4 : ck = 7 ∧ cp < p.ip (atF ck nn)
    · rw [applyF_due h2 h4]; exact ⟨fun q => absurd q (by show ¬ (4 : Int) = 1; decide), fun _ => h4.2⟩
    · rw [applyF_pop h1 h2 (by omega) h4]
      exact ⟨fun _ => by show p.ip (atF ck nn) ≤ cp; omega, fun q => absurd q (by show ¬ (1 : Int) = 4; decide)⟩
theorem through_resp (p : PG) (x y : Int) : (throughF p x y).ra = p.ra ∧ (throughF p x y).rv = p.rv ∧ (throughF p x y).rp = p.rp := by unfold throughF; split <;> exact ⟨rfl, rfl, rfl⟩
theorem walked_resp (p : PG) (x : Int) : (walkedF p x).ra = p.ra ∧ (walkedF p x).rv = p.rv ∧ (walkedF p x).rp = p.rp := by unfold walkedF; split <;> exact ⟨rfl, rfl, rfl⟩
/-- the head of the frame stays; the response is due -/
theorem stepF_due {k : Bool} {t : Nat} {m : MS} {p : PG} (h : PI k t p) (hM : MI m) (hdu : 5 ≤ p.pc → dueV p.ck p.cp p.ra p.rp) :
    Hdr p (stepF k m p).p ∧ ((stepF k m p).ret = true ∨ 5 ≤ (stepF k m p).p.pc → dueV p.ck p.cp (stepF k m p).p.ra (stepF k m p).p.rp) := by
  have hpc := h.pc
  have hs : Hdr p p := ⟨rfl, rfl, rfl, rfl, rfl, rfl, rfl⟩
  rcases (show p.pc = 0 ∨ p.pc = 1 ∨ p.pc = 2 ∨ p.pc = 3 ∨ p.pc = 4 ∨ p.pc = 5 ∨ p.pc = 6 ∨ p.pc = 7 ∨ p.pc = 8 by omega) with e | e | e | e | e | e | e | e | e
  · rw [stepF_0 e]; exact ⟨⟨rfl, rfl, rfl, rfl, rfl, rfl, rfl⟩, fun q => absurd q (by rintro (q | q); exact Bool.noConfusion q; exact absurd q (by show ¬ (5 : Int) ≤ 1; decide))⟩
  · rw [stepF_1 e]; exact ⟨⟨rfl, rfl, rfl, rfl, rfl, rfl, rfl⟩, fun q => absurd q (by rintro (q | q); exact Bool.noConfusion q; exact absurd q (by show ¬ (5 : Int) ≤ 2; decide))⟩
  · obtain ⟨r, hr, hr1, hr2⟩ := h.root (by omega)
    have hr' : p.root.toNat = r := by omega
    obtain ⟨c, hc, hc8⟩ := hM.cnt k (r % 256) hr2
    rw [stepF_2 e (by rw [hr', hc]; omega), hr', hc]
    obtain ⟨g1, g2, g3, g4⟩ := through_hdr (p.s_n c) 3 4
    refine ⟨Hdr.trans (q := p.s_n c) ⟨rfl, rfl, rfl, rfl, rfl, rfl, rfl⟩ g1.toHdr, fun q => absurd q ?_⟩
    rintro (q | q)
    · exact Bool.noConfusion q
    · have q' : 5 ≤ (throughF (p.s_n (c : Int)) 3 4).pc := q
      rcases g4 with ⟨_, z⟩ | ⟨_, z⟩ <;> omega
  · rw [stepF_3 e]
    generalize m.word (nd k (p.root.toNat % 256) + 1 + p.at_.toNat) = x
    obtain ⟨s1, s2, s3, s4, _⟩ := setCell_hdr k p p.at_.toNat x
    generalize setCell k p p.at_.toNat x = q at s1 s2 s3 s4
    obtain ⟨g1, g2, g3, g4⟩ := walked_hdr q 4
    refine ⟨s1.toHdr.trans g1.toHdr, fun qq => absurd qq ?_⟩
    rintro (q1 | q1)
    · exact Bool.noConfusion q1
    · have q' : 5 ≤ (walkedF q 4).pc := q1
      rcases g4 with ⟨_, z⟩ | ⟨_, z⟩ <;> omega
  · obtain ⟨nn, hn, hn8⟩ := h.n (by omega)
    have hn' : p.n.toNat = nn := by omega
    by_cases hw : m.word (hd k) = p.root
    · have hA := apply_hdr p nn hn hn8 p.ck p.cv p.cp
      cases hc : (applyF p p.n.toNat p.ck p.cv p.cp).ch
      · rw [stepF_4c e hw hc, hn']
        exact ⟨Hdr.trans hA.1.toHdr ⟨rfl, rfl, rfl, rfl, rfl, rfl, rfl⟩, fun _ => apply_due p nn p.ck p.cv p.cp⟩
      · rw [stepF_4b e hw hc, hn']
        exact ⟨Hdr.trans hA.1.toHdr ⟨rfl, rfl, rfl, rfl, rfl, rfl, rfl⟩, fun _ => apply_due p nn p.ck p.cv p.cp⟩
    · rw [stepF_4a e hw]
      exact ⟨⟨rfl, rfl, rfl, rfl, rfl, rfl, rfl⟩, fun q => absurd q (by rintro (q | q); exact Bool.noConfusion q; exact absurd q (by show ¬ (5 : Int) ≤ 2; decide))⟩
  · rw [stepF_5 e]
    obtain ⟨g1, _⟩ := through_hdr p 6 7
    obtain ⟨r1, r2, r3⟩ := through_resp p 6 7
    exact ⟨g1.toHdr, fun _ => by show dueV p.ck p.cp (throughF p 6 7).ra (throughF p 6 7).rp; rw [r1, r3]; exact hdu (by omega)⟩
  · rw [stepF_6 e]
    obtain ⟨g1, _⟩ := walked_hdr p 7
    obtain ⟨r1, r2, r3⟩ := walked_resp p 7
    exact ⟨g1.toHdr, fun _ => by show dueV p.ck p.cp (walkedF p 7).ra (walkedF p 7).rp; rw [r1, r3]; exact hdu (by omega)⟩
  · by_cases hw : m.word (hd k) = p.root
    · rw [stepF_7a e hw]; exact ⟨⟨rfl, rfl, rfl, rfl, rfl, rfl, rfl⟩, fun _ => hdu (by omega)⟩
    · rw [stepF_7b e hw]; exact ⟨⟨rfl, rfl, rfl, rfl, rfl, rfl, rfl⟩, fun q => absurd q (by rintro (q | q); exact Bool.noConfusion q; exact absurd q (by show ¬ (5 : Int) ≤ 2; decide))⟩
  · rw [stepF_8 e]; exact ⟨hs, fun _ => hdu (by omega)⟩
structure DI (W : WS) : Prop where
  wi : WI W
  log : ∀ e, e ∈ W.log → e.ret = true → dueV e.ck e.cp e.ra e.rp
  call : ∀ t x, W.run t = some x → x.2.ck = W.ck t ∧ (x.2.ck = 7 → x.2.cp = W.cp t)
  due : ∀ t x, W.run t = some x → 5 ≤ x.2.pc → dueV x.2.ck x.2.cp x.2.ra x.2.rp
theorem DI.step {W : WS} (h : DI W) (t : Nat) (hb : (W.run t).isSome = true) : DI (stepW W t) := by
  obtain ⟨x, hx⟩ := Option.isSome_iff_exists.1 hb
  obtain ⟨e1, e2⟩ := stepW_some hx
  have hP := h.wi.pi t x hx
  obtain ⟨d1, d2⟩ := stepF_due hP h.wi.mi (h.due t x hx)
  obtain ⟨c1, c2⟩ := h.call t x hx
  have hck : (stepW W t).ck = W.ck ∧ (stepW W t).cp = W.cp := by
    unfold stepW; rw [hx]; dsimp only; split <;> exact ⟨rfl, rfl⟩
  have hrun : ∀ s y, (stepW W t).run s = some y → (s ≠ t ∧ W.run s = some y) ∨ (s = t ∧ (stepF x.1 W.m x.2).ret = false ∧ y = (x.1, (stepF x.1 W.m x.2).p)) := fun s y hy => by
    rw [e2] at hy
    by_cases q : s = t
    · subst q
      rw [updF_same] at hy
      cases hr : (stepF x.1 W.m x.2).ret
      · rw [hr, if_neg (by simp)] at hy
        injection hy with hy
        exact .inr ⟨rfl, rfl, hy.symm⟩
      · rw [hr, if_pos rfl] at hy; cases hy
    · rw [updF_ne _ _ q] at hy; exact .inl ⟨q, hy⟩
  refine ⟨h.wi.step t, fun e he hret => ?_, fun s y hy => ?_, fun s y hy h5 => ?_⟩
  · have hlog : e ∈ W.log ∨ ((stepF x.1 W.m x.2).ret = true ∧ e = ⟨t, true, W.ck t, W.cv t, W.cp t, (stepF x.1 W.m x.2).p.ra, (stepF x.1 W.m x.2).p.rv, (stepF x.1 W.m x.2).p.rp⟩) := by
      unfold stepW at he; rw [hx] at he; dsimp only at he
      split at he
      · rename_i hr
        rcases List.mem_append.1 he with q | q
        · exact .inl q
        · exact .inr ⟨hr, by simpa using q⟩
      · exact .inl he
    rcases hlog with q | ⟨q1, q2⟩
    · exact h.log e q hret
    · subst q2
      have hdv := d2 (.inl q1)
      intro h7
      have h7' : x.2.ck = 7 := c1.trans h7
      have := hdv h7'
      rw [c2 h7'] at this
      exact this
  · rw [hck.1, hck.2]
    rcases hrun s y hy with ⟨q1, q2⟩ | ⟨q1, q2, q3⟩
    · exact h.call s y q2
    · subst q1; subst q3
      exact ⟨d1.ck.trans c1, fun h7 => d1.cp.trans (c2 (d1.ck.symm.trans h7))⟩
  · rcases hrun s y hy with ⟨q1, q2⟩ | ⟨q1, q2, q3⟩
    · exact h.due s y q2 h5
    · subst q1; subst q3
      show dueV (stepF x.1 W.m x.2).p.ck (stepF x.1 W.m x.2).p.cp _ _
      rw [d1.ck, d1.cp]; exact d2 (.inr h5)
theorem DI.inv {W : WS} (h : DI W) (t : Nat) (kd u v : Int) (ht : t < 6) : DI (invokeW W t kd u v) := by
  have hrun : ∀ s y, (invokeW W t kd u v).run s = some y → (s ≠ t ∧ W.run s = some y) ∨ (s = t ∧ y = (boxOf kd, startP (boxOf kd) t kd (cvOf kd u) (cpOf kd v))) := fun s y hy => by
    have hy' : updF W.run t (some (boxOf kd, startP (boxOf kd) t kd (cvOf kd u) (cpOf kd v))) s = some y := hy
    by_cases q : s = t
    · subst q; rw [updF_same] at hy'; injection hy' with hy'; exact .inr ⟨rfl, hy'.symm⟩
    · rw [updF_ne _ _ q] at hy'; exact .inl ⟨q, hy'⟩
  refine ⟨h.wi.inv t ht kd u v, fun e he hret => ?_, fun s y hy => ?_, fun s y hy h5 => ?_⟩
  · have he' : e ∈ W.log ++ [⟨t, false, kd, cvOf kd u, cpOf kd v, 0, 0, 0⟩] := he
    rcases List.mem_append.1 he' with q | q
    · exact h.log e q hret
    · have : e = ⟨t, false, kd, cvOf kd u, cpOf kd v, 0, 0, 0⟩ := by simpa using q
      rw [this] at hret; cases hret
  · rcases hrun s y hy with ⟨q1, q2⟩ | ⟨q1, q2⟩
    · show y.2.ck = updF W.ck t kd s ∧ (y.2.ck = 7 → y.2.cp = updF W.cp t (cpOf kd v) s)
      rw [updF_ne _ _ q1, updF_ne _ _ q1]; exact h.call s y q2
    · subst q1; subst q2
      refine ⟨(updF_same W.ck s kd).symm, fun h7 => ?_⟩
      show (if boxOf kd then cpOf kd v else 0) = updF W.cp s (cpOf kd v) s
      have h7' : kd = 7 := h7
      rw [updF_same, if_pos (by unfold boxOf; rw [decide_eq_true (by omega)])]
  · rcases hrun s y hy with ⟨q1, q2⟩ | ⟨q1, q2⟩
    · exact h.due s y q2 h5
    · subst q2; exact absurd h5 (by show ¬ (5 : Int) ≤ 0; decide)
theorem keepDI : Keep DI := ⟨fun _ h => h.wi, fun W t h hb => h.step t hb, fun W t kd u v h _ ht _ _ _ _ => h.inv t kd u v ht⟩
theorem start_DI {m : MS} (h : StartM m) : DI (W0 m) := ⟨start_WI h, fun e he => (by cases he), fun t x hx => (by cases hx), fun t x hx => (by cases hx)⟩
theorem flat_len (l : List Ev) : (l.flatMap evL).length = l.length * 8 := by
  induction l with
  | nil => rfl
  | cons e l ih => rw [List.flatMap_cons, List.length_append, ih, List.length_cons]; show 8 + _ = _; omega
theorem ev_at (l : List Ev) (junk : List Value) (i : Nat) (e : Ev) (h : l[i]? = some e) : ((l.flatMap evL ++ junk).drop (0 + i * 8)).take 8 = evL e := by
  induction l generalizing i with
  | nil => cases h
  | cons x l ih =>
    cases i with
    | zero =>
      have : x = e := by simpa using h
      subst this
      rfl
    | succ i =>
      have h' : l[i]? = some e := by simpa using h
      have := ih i h'
      rw [List.flatMap_cons, List.append_assoc, show 0 + (i + 1) * 8 = (evL x).length + (0 + i * 8) by show _ = 8 + _; omega, List.drop_append]
      rw [List.drop_eq_nil_of_le (Nat.le_add_right _ _), List.nil_append, Nat.add_sub_cancel_left]
      exact this

end Go.Proofs.Qxb6500914aGreat

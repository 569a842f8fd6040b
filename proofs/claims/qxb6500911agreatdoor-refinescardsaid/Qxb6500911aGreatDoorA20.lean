import Derived.Test.Qxb6500911aGreatDoorA19
namespace Go.Proofs.Qxb6500911aGreatDoor
open Go.Eng
set_option linter.unusedVariables false
set_option linter.unusedSimpArgs false
theorem slc22 : slcOk Tryz.prog 22 4 = true := by kernel_rfl
/-! ## scripts; the laws' frame -/
structure DO.ok (o : DO) : Prop where
  k : 0 ≤ o.k ∧ o.k ≤ 255
  a : -9223372036854775808 ≤ o.a ∧ o.a ≤ 9223372036854775807
  b : -9223372036854775808 ≤ o.b ∧ o.b ≤ 9223372036854775807
  c : -9223372036854775808 ≤ o.c ∧ o.c ≤ 9223372036854775807
structure Ops (sb : Nat) (c : List Value) (p : Option Addr) (cap : Nat) (ops : List DO) : Prop where
  le : ops.length ≤ cap
  ok : ∀ o, o ∈ ops → o.ok
  at_ : 0 < ops.length → ∃ so, p = some ⟨sb, so, none⟩ ∧ ∀ i o, ops[i]? = some o → (c.drop (so + i * 4)).take 4 = opc o
def OpsIn (sb : Nat) (c : List Value) (T : TypeId) (fr : Nat × Nat) (ops : List DO) (w : World) : Prop := 0 < ops.length → w.heap[sb]? = some (.cells ⟨c⟩ T fr)
theorem pt_law {tT : TypeId} {tf : Nat × Nat} {F1 Fn G : List (Nat × Obj)} {w0 w : World} (hh : Has [] w0 F1 w) (hp : w0.heap[0]? = some (.cells ⟨tabL⟩ tT tf)) (hk : Keeps F1 Fn G) : PreT tT tf Fn w :=
  pt_call (F := []) hh ⟨hp, fun x hx => (nomatch hx)⟩ hk
theorem st_bx {ep : Nat → Int} {fz : Nat → Nat → Int} {ev bv : Nat → Value} {wf : Nat → BitVec 16} {b : Nat} (hb : b < 16) : (arrL 116 (stV ep fz ev bv wf))[0 + 84 + b * 1]? = some (bv b) := by
  rw [show 0 + 84 + b * 1 = 84 + b by omega, arrL_get (by omega)]
  unfold stV
  rw [if_neg (by omega), if_neg (by omega), if_pos (by omega), show 84 + b - 84 = b by omega]
theorem snC_len (g : Gs) (ev bv : Nat → Value) : (snC g ev bv).length = 116 := arrL_length _ _
theorem snC_one {g : Gs} {ev bv : Nat → Value} {Ee Eb : Nat → List (Nat × Obj)} (h : SnR g ev bv Ee Eb) : (snC g ev bv).all (·.oneCell') = true := stV_one2 (fun c hc => (h.e c hc).one) (fun b hb => (h.b b hb).one)
theorem snC_whole (g : Gs) (ev bv : Nat → Value) : ((snC g ev bv).drop 0).take 116 = snC g ev bv := arr_whole116 _
structure LZ where
  g : Gs
  M : Mm
  ev : Nat → Value
  bv : Nat → Value
  Ee : Nat → List (Nat × Obj)
  Eb : Nat → List (Nat × Obj)
  i : Nat
/-! boxes in a step -/
structure BF (g g' : Gs) (cd : Int) : Prop where
  a : ∃ a : Nat, ∀ b, b < 16 → (g.bx b).length < (g'.bx b).length → b / 4 = a ∧ b % 4 ≠ a ∧ (g'.bx b).length ≤ (g.bx b).length + 8
  full : cd = 12 → ∃ b, b < 16 ∧ 24 < (g.bx b).length
theorem route_len2 {g : Gs} {a : Nat} {u : Up} (ha : a < 4) {b : Nat} : ((routeG g a u).bx b).length = (g.bx b).length + (if b = a * 4 + u.w % 4 ∧ u.w % 4 ≠ a then 1 else 0) := by
  unfold routeG
  split
  · rw [if_neg (by omega)]; rfl
  · simp only [bxU]
    by_cases c : b = a * 4 + u.w % 4
    · rw [if_pos c, if_pos (by omega), List.length_append, ← c]; rfl
    · rw [if_neg c, if_neg (by omega), Nat.add_zero]
theorem pub1_len {g : Gs} {a w : Nat} {bt : Bt} (ha : a < 4) {b : Nat} : (g.bx b).length ≤ ((pub1 a bt g w).bx b).length ∧ ((pub1 a bt g w).bx b).length ≤ (g.bx b).length + (if b = a * 4 + w % 4 ∧ w % 4 ≠ a then 2 else 0) := by
  unfold pub1
  split
  · rw [route_len2 ha]; simp only; split <;> omega
  · split
    · rw [route_len2 ha]; simp only
      split
      · rw [route_len2 ha]; simp only; split <;> omega
      · split <;> omega
    · split
      · rw [route_len2 ha]; simp only; split <;> omega
      · split <;> omega
theorem publ_len {g : Gs} {a : Nat} {bt : Bt} (ha : a < 4) {b : Nat} (hb : b < 16) : ∀ n, n ≤ 16 → (g.bx b).length ≤ ((publN a bt g n).bx b).length ∧ ((publN a bt g n).bx b).length ≤ (g.bx b).length + (if b / 4 = a ∧ b % 4 ≠ a then 2 * ((n + 3 - b % 4) / 4) else 0)
  | 0, _ => by
    simp only [publN]
    split <;> omega
  | n + 1, hn => by
    have h1 := publ_len (g := g) (bt := bt) ha hb n (by omega)
    have h2 := pub1_len (g := publN a bt g n) (w := n) (bt := bt) ha (b := b)
    simp only [publN]
    by_cases c : b / 4 = a ∧ b % 4 ≠ a
    · rw [if_pos c] at h1 ⊢
      by_cases c2 : b = a * 4 + n % 4 ∧ n % 4 ≠ a
      · rw [if_pos c2] at h2; omega
      · rw [if_neg c2] at h2; omega
    · rw [if_neg c] at h1 ⊢
      rw [if_neg (by omega)] at h2; omega
theorem BF.pub {g g1 : Gs} {a : Nat} {bt : Bt} (ha : a < 4) (hb : g1.bx = g.bx) : BF g (publN a bt g1 16) 0 := by
  refine ⟨⟨a, fun b hb2 hlt => ?_⟩, fun h => absurd h (by decide)⟩
  have h1 := publ_len (g := g1) (bt := bt) ha hb2 16 (Nat.le_refl _)
  rw [hb] at h1
  by_cases c : b / 4 = a ∧ b % 4 ≠ a
  · rw [if_pos c] at h1; exact ⟨c.1, c.2, by omega⟩
  · rw [if_neg c] at h1; omega
theorem BF.same {g g' : Gs} {cd : Int} (hb : g'.bx = g.bx) (hc : cd ≠ 12) : BF g g' cd := ⟨⟨0, fun b _ h => absurd h (by rw [hb]; omega)⟩, fun h => absurd h hc⟩
theorem BF.less {g g' : Gs} {cd : Int} (hb : ∀ b, (g'.bx b).length ≤ (g.bx b).length) (hc : cd ≠ 12) : BF g g' cd := ⟨⟨0, fun b _ h => absurd h (by have := hb b; omega)⟩, fun h => absurd h hc⟩
theorem BF.tight {g : Gs} {a : Nat} (ha : a < 4) (h : ¬ roomP g.bx a 4 = true) : BF g g 12 := by
  refine ⟨⟨0, fun b _ h => absurd h (by omega)⟩, fun _ => ?_⟩
  apply Classical.byContradiction
  intro hn
  refine h (roomP_spec.2 fun i hi hia => ?_)
  apply Classical.byContradiction
  intro hc
  exact hn ⟨a * 4 + i, by omega, by omega⟩
theorem acq_code (tb : Tab) (t r : Nat) (u : Int) : (acqN tb t r u).2 ≠ 12 := by
  unfold acqN
  repeat' split
  all_goals simp
theorem rel_code (tb : Tab) (t : Nat) (r : Int) : (relT tb t r).2.2 ≠ 12 := by
  unfold relT dropT
  repeat' split
  all_goals simp
theorem wdK_code (tb : Tab) (z : (Nat → Int) × Bt) (t : Nat) : (wdK tb z t).2.2 ≠ 12 := by
  unfold wdK
  split <;> simp
theorem hdl_bx (g : Gs) (m : Rm) : (hdlG g m).1.bx = g.bx ∧ (hdlG g m).2 ≠ 12 := by
  unfold hdlG
  split
  · exact ⟨rfl, by simp⟩
  · exact ⟨rfl, by simp⟩
theorem admC_cases {g : Gs} {t a : Int} : admC g t a = 0 ∨ (admC g t a ≠ 12 ∧ admC g t a ≠ 0) ∨ (admC g t a = 12 ∧ a.toNat < 4 ∧ ¬ roomP g.bx a.toNat 4 = true) := by
  unfold admC
  split
  · split
    · split
      · exact .inl rfl
      · exact .inr (.inr ⟨rfl, by omega, by assumption⟩)
    · exact .inr (.inl (by decide))
  · exact .inr (.inl (by decide))
theorem step_BF (g : Gs) (o : DO) : BF g (stepG g o).1 (stepG g o).2.1 := by
  unfold stepG
  split
  · simp only
    unfold acqG
    split
    · refine BF.same ?_ (acq_code _ _ _ _)
      simp only
      split <;> rfl
    · refine BF.same rfl ?_
      simp only; split <;> simp
  · split
    · simp only
      unfold relG
      split
      · split
        · split
          · exact BF.pub (by omega) rfl
          · exact BF.same rfl (rel_code _ _ _)
        · rename_i hr; exact BF.tight (a := (nmP o.a 16).toNat % 4) (by omega) hr
      · exact BF.same rfl (by simp)
    · split
      · simp only
        unfold canG
        rcases admC_cases (g := g) (t := nmP o.a 16) (a := nmP o.b 4) with h | h | h
        · rw [if_pos h]
          have ha := adm_0 h
          split
          · exact BF.pub (by omega) rfl
          · exact BF.same rfl (wdK_code _ _ _)
        · rw [if_neg h.2]; exact BF.same rfl h.1
        · rw [if_neg (by omega)]; simp only; rw [h.1]; exact BF.tight h.2.1 h.2.2
      · split
        · simp only
          unfold abG
          rcases admC_cases (g := g) (t := nmP o.a 16) (a := nmP o.b 4) with h | h | h
          · rw [if_pos h]
            have ha := adm_0 h
            exact BF.pub (by omega) rfl
          · rw [if_neg h.2]; exact BF.same rfl h.1
          · rw [if_neg (by omega)]; simp only; rw [h.1]; exact BF.tight h.2.1 h.2.2
        · split
          · simp only
            unfold delG
            split
            · exact BF.same rfl (by simp)
            · rename_i x l hx
              have h1 := hdl_bx { g with bx := bxU g.bx (foldB o.a) l } (msR x)
              refine BF.less (fun b => ?_) h1.2
              rw [h1.1]
              simp only [bxU]
              split
              · rename_i c; subst c; rw [hx, List.length_cons]; omega
              · exact Nat.le_refl _
          · exact BF.same rfl (by simp)
structure B9 where
  i : Nat
  sv : Int
structure B8 where
  i : Nat
  t : Bool
theorem tight_next {bx : Nat → List Ms} {i : Nat} {t : Bool} (h : t = true ∨ ∀ b, b < i → (bx b).length ≤ 24) (ht : t = false) : decide (24 < ((bx i).length : Int)) = true ∨ ∀ b, b < i + 1 → (bx b).length ≤ 24 := by
  rcases h with h | h
  · rw [ht] at h; cases h
  · by_cases c : 24 < ((bx i).length : Int)
    · exact .inl (decide_eq_true c)
    · right
      intro b hb
      by_cases e : b = i
      · subst e; omega
      · exact h b (by omega)
theorem tight_bad {g g' : Gs} {cd : Int} {i : Nat} {t : Bool} (hB : BF g g' cd) (h12 : cd = 12) (h : t = true ∨ ∀ b, b < i → (g.bx b).length ≤ 24) (ht : t = false) (hi : 16 ≤ i) : False := by
  obtain ⟨b, hb, h1⟩ := hB.full h12
  rcases h with h | h
  · rw [ht] at h; cases h
  · have := h b (by omega); omega


set_option maxHeartbeats 1000000 in
theorem small_spec (p : Option Addr) (n cap : Nat) (hlen : n ≤ 9223372036854775807) : Sp Tryz.prog 4 #[.slice p n cap] [] (fun v F' => v = .bool (decide (n ≤ 65536)) ∧ F' = []) := by
  refine f_enter (args := [.slice p n cap]) Tryz.func4 rfl Tryz.ntmps4 rfl ?_
  intro w0 w a hpre hl hh
  simp only [slotsFrom, Nat.reduceAdd] at hl
  refine c_seq ?_
  refine c_region ?_
  refine wl (wl_val hl rfl trivial (r_assign hl rfl) ?_)
  clear hl a; intro a hl
  refine w_nil ?_
  have hl2 := hl.add (t := 0) (hl.nil) rfl; clear hl; have hl := hl2; clear hl2
  refine then_normal ?_
  refine c_seq ?_
  refine c_region ?_
  refine wl (wl_val hl rfl trivial (r_move hl rfl) ?_)
  clear hl a; intro a hl
  refine wl (wl_val hl rfl trivial (r_lenS hl rfl slc22) ?_)
  clear hl a; intro a hl
  refine wl (wl_val hl rfl trivial (r_assign hl rfl) ?_)
  clear hl a; intro a hl
  refine w_nil ?_
  have hl2 := hl.add (t := 3) (hl.nil) rfl; clear hl; have hl := hl2; clear hl2
  refine then_normal ?_
  refine c_seq ?_
  refine c_seq ?_
  refine c_region ?_
  refine wl (wl_val hl rfl trivial (r_move hl rfl) ?_)
  clear hl a; intro a hl
  refine wl (wl_val hl rfl trivial (r_gtr hl rfl rfl) ?_)
  clear hl a; intro a hl
  refine w_nil ?_
  have hl2 := hl.add (t := 7) (hl.nil) rfl; clear hl; have hl := hl2; clear hl2
  refine then_normal ?_
  refine c_cond hl rfl ?_ ?_
  · intro hc0
    try simp only [decide_eq_true_eq, decide_eq_false_iff_not, Bool.not_eq_true', Bool.not_eq_false', Bool.not_eq_true, Bool.not_eq_false, Bool.and_eq_true, Bool.or_eq_true, Bool.and_eq_false_iff, Bool.or_eq_false_iff, Bool.not_not, ne_eq, Int.not_lt, Int.not_le, Decidable.not_not, beq_iff_eq, bne_iff_ne] at hc0
    refine c_seq ?_
    refine c_region ?_
    refine wl (wl_val hl rfl trivial (r_assign hl rfl) ?_)
    clear hl a; intro a hl
    refine w_nil ?_
    have hl2 := hl.add (t := 2) (hl.nil) rfl; clear hl; have hl := hl2; clear hl2
    refine then_normal ?_
    refine wp_ret ?_
    refine then_ret ?_
    refine f_ret1 (F' := []) hl hh rfl rfl (by repeat (first | exact keeps_nil | apply keeps_cons (by repeat (first | exact find_head | apply find_tail)) (by first  | rfl) | exact keeps_self | apply keeps_mv)) ?_
    exact ⟨congrArg Value.bool (decide_eq_false (by omega)).symm, rfl⟩
  · intro hc0
    try simp only [decide_eq_true_eq, decide_eq_false_iff_not, Bool.not_eq_true', Bool.not_eq_false', Bool.not_eq_true, Bool.not_eq_false, Bool.and_eq_true, Bool.or_eq_true, Bool.and_eq_false_iff, Bool.or_eq_false_iff, Bool.not_not, ne_eq, Int.not_lt, Int.not_le, Decidable.not_not, beq_iff_eq, bne_iff_ne] at hc0
    refine wp_skip ?_
    refine then_normal ?_
    refine c_seq ?_
    refine c_region ?_
    refine wl (wl_val hl rfl trivial (r_assign hl rfl) ?_)
    clear hl a; intro a hl
    refine w_nil ?_
    have hl2 := hl.add (t := 2) (hl.nil) rfl; clear hl; have hl := hl2; clear hl2
    refine then_normal ?_
    refine wp_ret ?_
    refine f_ret1 (F' := []) hl hh rfl rfl (by repeat (first | exact keeps_nil | apply keeps_cons (by repeat (first | exact find_head | apply find_tail)) (by first  | rfl) | exact keeps_self | apply keeps_mv)) ?_
    exact ⟨congrArg Value.bool (decide_eq_true (by omega)).symm, rfl⟩
end Go.Proofs.Qxb6500911aGreatDoor

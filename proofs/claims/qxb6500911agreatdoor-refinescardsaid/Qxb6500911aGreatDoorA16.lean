import Derived.Test.Qxb6500911aGreatDoorA15
namespace Go.Proofs.Qxb6500911aGreatDoor
open Go.Eng
set_option linter.unusedVariables false
set_option linter.unusedSimpArgs false
theorem cal38 : callable Tryz.prog 38 = true := by kernel_rfl
theorem cal57 : callable Tryz.prog 57 = true := by kernel_rfl
theorem cal43 : callable Tryz.prog 43 = true := by kernel_rfl
theorem cal55 : callable Tryz.prog 55 = true := by kernel_rfl
theorem cal45 : callable Tryz.prog 45 = true := by kernel_rfl
/-! ## the events, plain -/
theorem wk_ok {tot : Int} {l : List Rq} {h : Nat → Int} (hb : HB h l) : (∀ t, t ∈ (wakeP tot l h).2.2 → t < 16) ∧ (wakeP tot l h).2.2.length ≤ 16 := by
  have h1 := (wakeP_suf tot l h).1
  have h2 : ∀ t, t ∈ (wakeP tot l h).2.2 → t ∈ l.map (·.t) := fun t ht => by rw [h1]; exact List.mem_append_left _ ht
  refine ⟨fun t ht => ?_, ?_⟩
  · obtain ⟨x, hx, rfl⟩ := List.mem_map.1 (h2 t ht)
    exact (hb.q x hx).1
  · have := congrArg List.length h1
    rw [List.length_map, List.length_append] at this
    have := hb.len
    omega
theorem TI.drop {tb : Tab} {t r : Nat} (h : TI tb) (ht : t < 16) (hr : r < 20) : TI (dropT tb t r).1 ∧ (∀ w, w ∈ (dropT tb t r).2.1 → w < 16) ∧ (dropT tb t r).2.1.length ≤ 16 := by
  unfold dropT
  have hb := (h.hb r hr).zero ht
  split
  · exact ⟨h, (fun w hw => by simp at hw), Nat.zero_le _⟩
  · exact ⟨h.upd (wakeP_hb (tot_rng r).2 hb) hr (fun x hx => (wakeP_suf _ _ _).2 x hx), (wk_ok hb).1, (wk_ok hb).2⟩
theorem TI.withd {tb : Tab} {t r : Nat} (h : TI tb) (hr : r < 20) : TI (withT tb t r).1 ∧ (∀ w, w ∈ (withT tb t r).2 → w < 16) ∧ (withT tb t r).2.length ≤ 16 := by
  unfold withT
  have hb := (h.hb r hr).oth t
  exact ⟨h.upd (wakeP_hb (tot_rng r).2 hb) hr (fun x hx => (List.mem_filter.1 ((wakeP_suf _ _ _).2 x hx)).1), (wk_ok hb).1, (wk_ok hb).2⟩
theorem TI.rel {tb : Tab} {t : Nat} {r : Int} (h : TI tb) (ht : t < 16) : TI (relT tb t r).1 ∧ (∀ w, w ∈ (relT tb t r).2.1 → w < 16) ∧ (relT tb t r).2.1.length ≤ 16 := by
  unfold relT
  split
  · split
    · exact ⟨h, (fun w hw => by simp at hw), Nat.zero_le _⟩
    · exact h.drop ht (by omega)
  · exact ⟨h, (fun w hw => by simp at hw), Nat.zero_le _⟩
theorem not_wait {tb : Tab} {t : Nat} : ∀ {n r : Nat}, waitOn tb t n = none → r < n → ∀ x, x ∈ tb.q r → x.t ≠ t
  | 0, r, _, hr => absurd hr (by omega)
  | n + 1, r, h, hr => by
    rw [waitOn] at h
    split at h
    · cases h
    · rename_i h1
      split at h
      · cases h
      · rename_i h2
        intro x hx hxt
        by_cases c : r = n
        · subst c
          exact h2 (List.any_eq_true.2 ⟨x, hx, by simpa using hxt⟩)
        · exact not_wait h1 (by omega) x hx hxt
theorem TI.acq {tb : Tab} {t r : Nat} {u : Int} (h : TI tb) (ht : t < 16) (hr : r < 20) (hu : u ≤ 16) : TI (acqN tb t r u).1 := by
  unfold acqN
  split
  · exact h
  · rename_i hw
    have hw0 : waitOn tb t 20 = none := by cases hq : waitOn tb t 20 with | none => rfl | some r => rw [hq] at hw; simp at hw
    split
    · exact h
    · split
      · exact h
      · split
        · exact h
        · rename_i hu2
          have hb := h.hb r hr
          have htot := (tot_rng r).2
          split
          · rename_i hq
            have hf := hq.2
            unfold freeP at hf
            have hs := hb.sum
            refine h.upd ⟨fun j hj => ?_, ?_, hb.q, hb.nd⟩ hr (fun x hx => hx)
            · have h8 := hb.nn j hj; have h9 := hb.nn t ht; show 0 ≤ if j = t then tb.held r t + u else tb.held r j; split <;> omega
            · unfold giveH; rw [sumN_upd ht]; simp only; omega
          · have hn : t ∉ (tb.q r).map (·.t) := fun hm => by
              obtain ⟨x, hx, hxt⟩ := List.mem_map.1 hm
              exact not_wait hw0 hr x hx hxt
            have hb' : HB (tb.held r) (tb.q r ++ [⟨t, u⟩]) := by
              refine ⟨hb.nn, hb.sum, fun x hx => ?_, ?_⟩
              · rcases List.mem_append.1 hx with hx | hx
                · exact hb.q x hx
                · simp only [List.mem_singleton] at hx; subst hx; exact ⟨ht, by simp only; omega, hu⟩
              · rw [List.map_append, List.nodup_append]
                exact ⟨hb.nd, by simp, fun x hx y hy => by simp only [List.map_cons, List.map_nil, List.mem_singleton] at hy; subst hy; exact fun e => hn (e ▸ hx)⟩
            refine ⟨fun r' hr' => ?_, fun r1 r2 h1 h2 x hx y hy e => ?_⟩
            · simp only [tbU]
              by_cases c : r' = r
              · subst c; rw [if_pos rfl, if_pos rfl]; exact hb'
              · rw [if_neg c, if_neg c]; exact h.hb r' hr'
            · have key : ∀ r1, r1 < 20 → ∀ x, x ∈ (tbU tb r (tb.held r) (tb.q r ++ [⟨t, u⟩])).q r1 → (x ∈ tb.q r1) ∨ (r1 = r ∧ x.t = t) := by
                intro r1 h1 x hx
                simp only [tbU] at hx
                split at hx
                · rename_i c
                  subst c
                  rcases List.mem_append.1 hx with hx | hx
                  · exact .inl hx
                  · simp only [List.mem_singleton] at hx; subst hx; exact .inr ⟨rfl, rfl⟩
                · exact .inl hx
              rcases key r1 h1 x hx with k1 | k1 <;> rcases key r2 h2 y hy with k2 | k2
              · exact h.dis r1 r2 h1 h2 x k1 y k2 e
              · exact absurd (e.trans k2.2) (not_wait hw0 h1 x k1)
              · exact absurd (e.symm.trans k1.2) (not_wait hw0 h2 y k2)
              · rw [k1.1, k2.1]
theorem BtOk.mono {Q Q' : Int} {b : Bt} (h : BtOk Q b) (hq : Q ≤ Q') : BtOk Q' b := ⟨fun t ht => by have := h.ep t ht; omega, h.add, h.del⟩
theorem BtOk.ending {Q : Int} {b : Bt} {ep : Nat → Int} {w : Nat} (h : BtOk Q b) (he : EpI Q ep) : BtOk Q (endB b ep w) := ⟨fun t ht => by
  simp only [endB, updI]
  split
  · rename_i c; subst c; exact he.bd t ht
  · exact h.ep t ht, h.add, h.del⟩
theorem hcA_ok : ∀ (wk : List Nat) {Q : Int} {z : (Nat → Int) × Bt}, EpI Q z.1 → BtOk Q z.2 → BtOk (Q + wk.length) (hcA z wk).2
  | [], Q, z, _, h => by simpa [hcA] using h
  | w :: wk, Q, z, he, h => by
    have h0 := (h.ending (w := w) he).mono (show Q ≤ Q + 1 by omega)
    have h1 : BtOk (Q + 1) (hcA1 z w).2 := ⟨h0.ep, h0.add, h0.del⟩
    have := hcA_ok wk (z := hcA1 z w) (he.up w) h1
    rw [List.length_cons]
    exact this.mono (by omega)
theorem hcB_ok {Q : Int} {ep : Nat → Int} {ca we : BitVec 16} : ∀ (ws : List Nat) {b : Bt}, EpI Q ep → BtOk Q b → (∀ t, t ∈ ws → t < 16) → BtOk Q (hcB ep ca we b ws)
  | [], b, _, h, _ => h
  | w :: ws, b, he, h, hw => by
    have hw16 := hw w (.head _)
    have hx : ∀ m : BitVec 16, (m &&& ~~~ bitB w).getLsbD w = false := fun m => by
      rw [BitVec.getLsbD_and, BitVec.getLsbD_not, bitB, BitVec.getLsbD_twoPow]; simp
    refine hcB_ok ws (b := hcB1 ep ca we b w) he ⟨fun t ht => ?_, fun t ht => ?_, fun t ht => ?_⟩ (fun t ht => hw t (.tail _ ht))
    · simp only [hcB1, updI]
      split
      · rename_i c; subst c; exact he.bd t ht
      · exact h.ep t ht
    · simp only [hcB1, updB]
      split
      · rename_i c; subst c; rw [BitVec.getLsbD_or, h.add t ht, hx]; rfl
      · exact h.add t ht
    · simp only [hcB1, updB]
      split
      · rename_i c; subst c; rw [BitVec.getLsbD_or, h.del t ht, hx]; rfl
      · exact h.del t ht
theorem hcP_ok {tb : Tab} {r : Nat} {bf : BitVec 16} {z : (Nat → Int) × Bt} {wk : List Nat} {Q : Int} (hI : TI tb) (hr : r < 20) (he : EpI Q z.1) (hb : BtOk Q z.2) (hw : wk.length ≤ 16) : EpI (Q + 16) (hcP tb r bf z wk).1 ∧ BtOk (Q + 16) (hcP tb r bf z wk).2 := by
  have h1 := (hcA_ep wk he).mono (show Q + (wk.length : Int) ≤ Q + 16 by omega)
  have h2 := (hcA_ok wk he hb).mono (show Q + (wk.length : Int) ≤ Q + 16 by omega)
  unfold hcP
  split
  · exact ⟨h1, h2⟩
  · exact ⟨h1, hcB_ok _ h1 h2 (fun t ht => by obtain ⟨x, hx, rfl⟩ := List.mem_map.1 ht; exact (hI.q r hr x hx).1)⟩
theorem bt0_ok {Q : Int} (h : 0 ≤ Q) : BtOk Q bt0 := ⟨fun t _ => ⟨Int.le_refl _, h⟩, fun t _ => by simp [bt0], fun t _ => by simp [bt0]⟩
theorem btz : C [.int .u16 0, .int .u16 0, .int .u16 0, .int .u16 0, .int .u16 0, .int .u16 0, .int .u16 0, .int .u16 0, .int .u16 0, .int .u16 0, .int .u16 0, .int .u16 0, .int .u16 0, .int .u16 0, .int .u16 0, .int .u16 0, .int .u16 0, .int .u16 0, .int .u16 0, .int .u16 0, .int .u16 0, .int .u16 0, .int .u16 0, .int .u16 0, .int .u16 0, .int .u16 0, .int .u16 0, .int .u16 0, .int .u16 0, .int .u16 0, .int .u16 0, .int .u16 0, .int .u16 0, .int .u16 0, .int .u64 0, .int .u64 0, .int .u64 0, .int .u64 0, .int .u64 0, .int .u64 0, .int .u64 0, .int .u64 0, .int .u64 0, .int .u64 0, .int .u64 0, .int .u64 0, .int .u64 0, .int .u64 0, .int .u64 0, .int .u64 0] 118 = C (arrL 50 (btV bt0)) 118 := by
  unfold arrL; rfl
/-- what withdraw makes of the tables, the epochs and the batch -/
def wdK (tb : Tab) (z : (Nat → Int) × Bt) (t : Nat) : Tab × ((Nat → Int) × Bt) × Int :=
  match waitOn tb t 20 with
  | none => (tb, z, 11)
  | some r => ((withT tb t r).1, hcP (withT tb t r).1 r (holdB tb r) (updI z.1 t (z.1 t + 1), endB z.2 z.1 t) (withT tb t r).2, 0)
theorem wdK_ok {tb : Tab} {z : (Nat → Int) × Bt} {t : Nat} {Q : Int} (hI : TI tb) (he : EpI Q z.1) (hb : BtOk Q z.2) : TI (wdK tb z t).1 ∧ EpI (Q + 17) (wdK tb z t).2.1.1 ∧ BtOk (Q + 17) (wdK tb z t).2.1.2 := by
  unfold wdK
  split
  · exact ⟨hI, he.mono (by omega), hb.mono (by omega)⟩
  · rename_i r hw
    have hr := (wait_mem hw).1
    have h1 := hI.withd (t := t) hr
    have h2 := hcP_ok (bf := holdB tb r) (z := (updI z.1 t (z.1 t + 1), endB z.2 z.1 t)) (Q := Q + 1) h1.1 hr (he.up t) ((hb.ending he).mono (by omega)) h1.2.2
    exact ⟨h1.1, h2.1.mono (by omega), h2.2.mono (by omega)⟩
def abS (t : Nat) (z : Tab × ((Nat → Int) × Bt)) (r : Nat) : Tab × ((Nat → Int) × Bt) := ((dropT z.1 t r).1, hcP (dropT z.1 t r).1 r (holdB z.1 r) z.2 (dropT z.1 t r).2.1)
def abN (t : Nat) (z : Tab × ((Nat → Int) × Bt)) (rs : List Nat) : Tab × ((Nat → Int) × Bt) := rs.foldl (abS t) z
theorem abN_snoc {t : Nat} {z : Tab × ((Nat → Int) × Bt)} {rs : List Nat} {i r : Nat} (h : rs[i]? = some r) : abN t z (rs.take (i + 1)) = abS t (abN t z (rs.take i)) r := by
  unfold abN; rw [List.take_add_one, h, List.foldl_append]; rfl
theorem abS_ok {t r : Nat} {z : Tab × ((Nat → Int) × Bt)} {Q : Int} (ht : t < 16) (hr : r < 20) (hI : TI z.1) (he : EpI Q z.2.1) (hb : BtOk Q z.2.2) : TI (abS t z r).1 ∧ EpI (Q + 16) (abS t z r).2.1 ∧ BtOk (Q + 16) (abS t z r).2.2 := by
  have h1 := hI.drop ht hr
  have h2 := hcP_ok (bf := holdB z.1 r) (z := z.2) h1.1 hr he hb h1.2.2
  exact ⟨h1.1, h2.1, h2.2⟩
theorem heldBy_lt {tb : Tab} {t r : Nat} (h : r ∈ heldBy tb t) : r < 20 := by unfold heldBy at h; exact List.mem_range.1 (List.mem_filter.1 h).1
theorem heldBy_len (tb : Tab) (t : Nat) : (heldBy tb t).length ≤ 20 := filter_len _ 20
/-- whole events -/
def setC (g : Gs) (tb : Tab) (ep : Nat → Int) : Gs := { g with tb := tb, ep := ep }
def acqG (g : Gs) (t r u : Int) : Gs × Int :=
  if (0 ≤ t ∧ t < 16) ∧ 0 ≤ r ∧ r < 20 then
    ((if (acqN g.tb t.toNat r.toNat u).2 = 1 then applyG (setC g (acqN g.tb t.toNat r.toNat u).1 g.ep) ⟨1, t.toNat, g.ep t.toNat, holdB (acqN g.tb t.toNat r.toNat u).1 r.toNat &&& ~~~ bitB t.toNat⟩ else setC g (acqN g.tb t.toNat r.toNat u).1 g.ep), (acqN g.tb t.toNat r.toNat u).2)
  else (g, if 0 ≤ t ∧ t < 16 then 5 else 4)
def bfR (tb : Tab) (r : Int) : BitVec 16 := if 0 ≤ r ∧ r < 20 then holdB tb r.toNat else 0#16
def relH (g : Gs) (t : Nat) (r : Int) : (Nat → Int) × Bt := hcP (relT g.tb t r).1 r.toNat (bfR g.tb r) (g.ep, bt0) (relT g.tb t r).2.1
def relG (g : Gs) (t r : Int) : Gs × BitVec 16 × Int :=
  if 0 ≤ t ∧ t < 16 then
    if roomP g.bx (t.toNat % 4) 4 = true then
      if (relT g.tb t.toNat r).2.2 = 0 then (publN (t.toNat % 4) (relH g t.toNat r).2 (setC g (relT g.tb t.toNat r).1 (relH g t.toNat r).1) 16, (relH g t.toNat r).2.woken, 0)
      else (g, 0#16, (relT g.tb t.toNat r).2.2)
    else (g, 0#16, 12)
  else (g, 0#16, 4)
def admC (g : Gs) (t a : Int) : Int := if 0 ≤ t ∧ t < 16 then (if 0 ≤ a ∧ a < 4 then (if roomP g.bx a.toNat 4 = true then 0 else 12) else 6) else 4
def canG (g : Gs) (t a : Int) : Gs × BitVec 16 × Int :=
  if admC g t a = 0 then
    if (wdK g.tb (g.ep, bt0) t.toNat).2.2 = 0 then (publN a.toNat (wdK g.tb (g.ep, bt0) t.toNat).2.1.2 (setC g (wdK g.tb (g.ep, bt0) t.toNat).1 (wdK g.tb (g.ep, bt0) t.toNat).2.1.1) 16, (wdK g.tb (g.ep, bt0) t.toNat).2.1.2.woken, 0)
    else (g, 0#16, (wdK g.tb (g.ep, bt0) t.toNat).2.2)
  else (g, 0#16, admC g t a)
def abK (g : Gs) (t : Nat) : Tab × ((Nat → Int) × Bt) := abN t ((wdK g.tb (g.ep, bt0) t).1, (wdK g.tb (g.ep, bt0) t).2.1) (heldBy (wdK g.tb (g.ep, bt0) t).1 t)
def abG (g : Gs) (t a : Int) : Gs × BitVec 16 × Int :=
  if admC g t a = 0 then (publN a.toNat (abK g t.toNat).2.2 (setC g (abK g t.toNat).1 (abK g t.toNat).2.1) 16, (abK g t.toNat).2.2.woken, 0)
  else (g, 0#16, admC g t a)
theorem rel_same {tb : Tab} {t : Nat} {r : Int} (h : (relT tb t r).2.2 ≠ 0) : (relT tb t r).1 = tb := by
  unfold relT at h ⊢
  split at h
  · rename_i c
    rw [if_pos c]
    split at h
    · rename_i c2; rw [if_pos c2]
    · rename_i c2
      rw [if_neg c2]
      unfold dropT at h ⊢
      split at h
      · rename_i c3; rw [if_pos c3]
      · exact absurd rfl h
  · rename_i c; rw [if_neg c]
theorem rel_r {tb : Tab} {t : Nat} {r : Int} (h : (relT tb t r).2.2 = 0) : 0 ≤ r ∧ r < 20 := by
  apply Classical.byContradiction
  intro hc
  unfold relT at h
  rw [if_neg hc] at h
  simp at h
theorem GI.core {B Q Q' : Int} {g : Gs} {tb : Tab} {ep : Nat → Int} (h : GI B Q g) (hq : Q ≤ Q') (h1 : TI tb) (h2 : EpI Q' ep) : GI B Q' (setC g tb ep) :=
  have h' := h.mono (Int.le_refl B) hq
  ⟨h1, h'.ok, h'.nb, h'.fb, h2, h'.b32, h'.ms⟩
def nmP (v n : Int) : Int := if v < 0 ∨ n ≤ v then -1 else v
theorem wdK_11 {tb : Tab} {z : (Nat → Int) × Bt} {t : Nat} (h : ¬ (wdK tb z t).2.2 = 0) : wdK tb z t = (tb, z, 11) := by
  unfold wdK at h ⊢
  split at h
  · rfl
  · exact absurd rfl h
theorem wdK_some {tb : Tab} {z : (Nat → Int) × Bt} {t r : Nat} (h : waitOn tb t 20 = some r) : wdK tb z t = ((withT tb t r).1, hcP (withT tb t r).1 r (holdB tb r) (updI z.1 t (z.1 t + 1), endB z.2 z.1 t) (withT tb t r).2, 0) := by unfold wdK; rw [h]
theorem wdK_none {tb : Tab} {z : (Nat → Int) × Bt} {t : Nat} (h : waitOn tb t 20 = none) : wdK tb z t = (tb, z, 11) := by unfold wdK; rw [h]
theorem adm_0 {g : Gs} {t a : Int} (h : admC g t a = 0) : (0 ≤ t ∧ t < 16) ∧ (0 ≤ a ∧ a < 4) ∧ roomP g.bx a.toNat 4 = true := by
  unfold admC at h
  split at h
  · rename_i c1
    split at h
    · rename_i c2
      split at h
      · rename_i c3; exact ⟨c1, c2, c3⟩
      · cases h
    · cases h
  · cases h
/-- what an event leaves -/
def Ev (B Q : Int) (bg : Nat) (M : Mm) (g' : Gs) (F' : List (Nat × Obj)) : Prop := ∃ M', F' = sysL bg M' ∧ SysF g' M' ∧ GI (B + 40) (Q + 400) g' ∧ M'.bm = M.bm ∧ M'.bt = M.bt
structure AZ where
  tb : Tab
  ep : Nat → Int
  b : Bt
  ft : Nat → Value
  Et : Nat → List (Nat × Obj)
  i : Nat
structure AI (Q : Int) (t : Nat) (z0 : Tab × ((Nat → Int) × Bt)) (rs : List Nat) (z : AZ) : Prop where
  eq : (z.tb, (z.ep, z.b)) = abN t z0 (rs.take z.i)
  tf : TabF z.tb z.ft z.Et
  ti : TI z.tb
  ep : EpI (Q + 17 + 16 * z.i) z.ep
  bo : BtOk (Q + 17 + 16 * z.i) z.b
theorem AI.next {Q : Int} {t : Nat} {z0 : Tab × ((Nat → Int) × Bt)} {rs : List Nat} {z : AZ} {r : Nat} {ft : Nat → Value} {Et : Nat → List (Nat × Obj)} (h : AI Q t z0 rs z) (ht : t < 16) (hr : r < 20) (hx : rs[z.i]? = some r) (hT : TabF (dropT z.tb t r).1 ft Et) :
    AI Q t z0 rs ⟨(dropT z.tb t r).1, (hcP (dropT z.tb t r).1 r (holdB z.tb r) (z.ep, z.b) (dropT z.tb t r).2.1).1, (hcP (dropT z.tb t r).1 r (holdB z.tb r) (z.ep, z.b) (dropT z.tb t r).2.1).2, ft, Et, z.i + 1⟩ := by
  have h1 := abS_ok (z := (z.tb, (z.ep, z.b))) ht hr h.ti h.ep h.bo
  refine ⟨?_, hT, h1.1, ?_, ?_⟩
  · simp only
    rw [abN_snoc hx, ← h.eq]; rfl
  · simp only
    exact h1.2.1.mono (by omega)
  · simp only
    exact h1.2.2.mono (by omega)
theorem apF1 {fz e : Int} : apF 1 fz e = fz := by simp [apF]
theorem apL1 {fz e : Int} {l : List Wt} {s : BitVec 16} : apL 1 fz l e s = adjS fz l e s 1 := by simp [apL]


set_option maxHeartbeats 1000000 in
theorem name_spec (v n : Int) : Sp Tryz.prog 17 #[.int .i64 v, .int .i64 n] [] (fun u F' => u = .int .i64 (nmP v n) ∧ F' = []) := by
  refine f_enter (args := [.int .i64 v, .int .i64 n]) Tryz.func17 rfl Tryz.ntmps17 rfl ?_
  intro w0 w a hpre hl hh
  simp only [slotsFrom, Nat.reduceAdd] at hl
  refine c_seq ?_
  refine c_region ?_
  refine wl (wl_val hl rfl trivial (r_assign hl rfl) ?_)
  clear hl a; intro a hl
  refine w_nil ?_
  have hl2 := hl.add (t := 0) (hl.add (t := 1) (hl.nil) rfl) rfl; clear hl; have hl := hl2; clear hl2
  refine then_normal ?_
  refine c_seq ?_
  refine c_seq ?_
  refine c_region ?_
  refine wl (wl_val hl rfl trivial (r_move hl rfl) ?_)
  clear hl a; intro a hl
  refine wl (wl_val hl rfl trivial (r_lss hl rfl rfl) ?_)
  clear hl a; intro a hl
  refine wl (wl_val hl rfl trivial (r_move hl rfl) ?_)
  clear hl a; intro a hl
  refine sl_split (t := 7) hl rfl ?_ ?_
  · intro hg1; clear hl; intro hl
    try simp only [decide_eq_true_eq, decide_eq_false_iff_not, Bool.not_eq_true', Bool.not_eq_false', Bool.not_eq_true, Bool.not_eq_false, Bool.and_eq_true, Bool.or_eq_true, Bool.and_eq_false_iff, Bool.or_eq_false_iff, Bool.not_not, ne_eq, Int.not_lt, Int.not_le, Decidable.not_not, beq_iff_eq, bne_iff_ne] at hg1
    refine wl (wl_skip hl rfl ⟨_, _, rfl, rfl, rfl⟩ ?_)
    clear hl a; intro a hl
    refine wl (wl_skip hl rfl ⟨_, _, rfl, rfl, rfl⟩ ?_)
    clear hl a; intro a hl
    refine wl (wl_skip hl rfl ⟨_, _, rfl, rfl, rfl⟩ ?_)
    clear hl a; intro a hl
    refine wl (wl_val hl rfl trivial (r_pickT hl rfl rfl) ?_)
    clear hl a; intro a hl
    refine w_nil ?_
    have hl2 := hl.add (t := 0) (hl.add (t := 11) (hl.nil) rfl) rfl; clear hl; have hl := hl2; clear hl2
    refine then_normal ?_
    refine c_condT hl rfl ?_
    refine c_seq ?_
    refine c_region ?_
    refine wl (wl_val hl rfl trivial (r_assign hl rfl) ?_)
    clear hl a; intro a hl
    refine w_nil ?_
    have hl2 := hl.add (t := 4) (hl.nil) rfl; clear hl; have hl := hl2; clear hl2
    refine then_normal ?_
    refine wp_ret ?_
    refine then_ret ?_
    refine f_ret1 (F' := []) hl hh rfl rfl (by repeat (first | exact keeps_nil | apply keeps_cons (by repeat (first | exact find_head | apply find_tail)) (by first  | rfl) | exact keeps_self | apply keeps_mv)) ?_
    exact ⟨congrArg (Value.int .i64) (by unfold nmP; rw [if_pos (by omega)]), rfl⟩
  · intro hg1; clear hl; intro hl
    try simp only [decide_eq_true_eq, decide_eq_false_iff_not, Bool.not_eq_true', Bool.not_eq_false', Bool.not_eq_true, Bool.not_eq_false, Bool.and_eq_true, Bool.or_eq_true, Bool.and_eq_false_iff, Bool.or_eq_false_iff, Bool.not_not, ne_eq, Int.not_lt, Int.not_le, Decidable.not_not, beq_iff_eq, bne_iff_ne] at hg1
    refine wl (wl_val hl rfl ⟨_, _, rfl, rfl, rfl⟩ (r_move hl rfl) ?_)
    clear hl a; intro a hl
    refine wl (wl_val hl rfl ⟨_, _, rfl, rfl, rfl⟩ (r_move hl rfl) ?_)
    clear hl a; intro a hl
    refine wl (wl_val hl rfl ⟨_, _, rfl, rfl, rfl⟩ (r_geq hl rfl rfl) ?_)
    clear hl a; intro a hl
    refine wl (wl_val hl rfl trivial (r_pickF hl rfl rfl) ?_)
    clear hl a; intro a hl
    refine w_nil ?_
    have hl2 := hl.add (t := 0) (hl.add (t := 11) (hl.nil) rfl) rfl; clear hl; have hl := hl2; clear hl2
    refine then_normal ?_
    refine c_cond hl rfl ?_ ?_
    · intro hc0
      try simp only [decide_eq_true_eq, decide_eq_false_iff_not, Bool.not_eq_true', Bool.not_eq_false', Bool.not_eq_true, Bool.not_eq_false, Bool.and_eq_true, Bool.or_eq_true, Bool.and_eq_false_iff, Bool.or_eq_false_iff, Bool.not_not, ne_eq, Int.not_lt, Int.not_le, Decidable.not_not, beq_iff_eq, bne_iff_ne] at hc0
      refine c_seq ?_
      refine c_region ?_
      refine wl (wl_val hl rfl trivial (r_assign hl rfl) ?_)
      clear hl a; intro a hl
      refine w_nil ?_
      have hl2 := hl.add (t := 4) (hl.nil) rfl; clear hl; have hl := hl2; clear hl2
      refine then_normal ?_
      refine wp_ret ?_
      refine then_ret ?_
      refine f_ret1 (F' := []) hl hh rfl rfl (by repeat (first | exact keeps_nil | apply keeps_cons (by repeat (first | exact find_head | apply find_tail)) (by first  | rfl) | exact keeps_self | apply keeps_mv)) ?_
      exact ⟨congrArg (Value.int .i64) (by unfold nmP; rw [if_pos (by omega)]), rfl⟩
    · intro hc0
      try simp only [decide_eq_true_eq, decide_eq_false_iff_not, Bool.not_eq_true', Bool.not_eq_false', Bool.not_eq_true, Bool.not_eq_false, Bool.and_eq_true, Bool.or_eq_true, Bool.and_eq_false_iff, Bool.or_eq_false_iff, Bool.not_not, ne_eq, Int.not_lt, Int.not_le, Decidable.not_not, beq_iff_eq, bne_iff_ne] at hc0
      refine wp_skip ?_
      refine then_normal ?_
      refine c_seq ?_
      refine c_region ?_
      refine wl (wl_val hl rfl trivial (r_move hl rfl) ?_)
      clear hl a; intro a hl
      refine wl (wl_val hl rfl trivial (r_assign hl rfl) ?_)
      clear hl a; intro a hl
      refine w_nil ?_
      have hl2 := hl.add (t := 4) (hl.nil) rfl; clear hl; have hl := hl2; clear hl2
      refine then_normal ?_
      refine wp_ret ?_
      refine f_ret1 (F' := []) hl hh rfl rfl (by repeat (first | exact keeps_nil | apply keeps_cons (by repeat (first | exact find_head | apply find_tail)) (by first  | rfl) | exact keeps_self | apply keeps_mv)) ?_
      exact ⟨congrArg (Value.int .i64) (by unfold nmP; rw [if_neg (by omega)]), rfl⟩

set_option maxHeartbeats 1000000 in
theorem admit_spec {g : Gs} {M : Mm} (hS : SysF g M) (bg : Nat) (h32 : ∀ b, b < 16 → (g.bx b).length ≤ 32) (t a_ : Int) : SpK Tryz.prog 47 #[.pointer (some ⟨bg, 0, none⟩), .int .i64 t, .int .i64 a_] (Mem (sysL bg M)) [] (fun v F' => v = .int .i64 (admC g t a_) ∧ F' = []) := by
  refine f_enter (args := [.pointer (some ⟨bg, 0, none⟩), .int .i64 t, .int .i64 a_]) Tryz.func47 rfl Tryz.ntmps47 rfl ?_
  intro w0 w a hpre hl hh
  simp only [slotsFrom, Nat.reduceAdd] at hl
  refine c_seq ?_
  refine c_region ?_
  refine wl (wl_val hl rfl trivial (r_assign hl rfl) ?_)
  clear hl a; intro a hl
  refine w_nil ?_
  have hl2 := hl.add (t := 0) (hl.add (t := 1) (hl.add (t := 2) (hl.nil) rfl) rfl) rfl; clear hl; have hl := hl2; clear hl2
  refine then_normal ?_
  refine c_seq ?_
  refine wp_block ?_
  refine c_seq ?_
  refine c_region ?_
  refine wl (wl_val hl rfl trivial (r_move hl rfl) ?_)
  clear hl a; intro a hl
  refine wl (w_call hl hh rfl trivial rfl cal38 rfl (validTask_spec _) (by repeat (first | exact keeps_nil | apply keeps_cons (by repeat (first | exact find_head | apply find_tail)) (by first  | rfl) | exact keeps_self | apply keeps_mv)) trivial ?_)
  clear hl hh a w; intro vc Fc a w hR hl hh
  obtain ⟨rfl, rfl⟩ := hR
  try simp only [List.cons_append, List.nil_append] at hh
  refine wl (wl_val hl rfl trivial (r_not hl rfl) ?_)
  clear hl a; intro a hl
  refine wl (wl_val hl rfl trivial (r_assign hl rfl) ?_)
  clear hl a; intro a hl
  refine w_nil ?_
  have hl2 := hl.add (t := 0) (hl.add (t := 2) (hl.add (t := 7) (hl.nil) rfl) rfl) rfl; clear hl; have hl := hl2; clear hl2
  refine then_normal ?_
  refine c_cond hl rfl ?_ ?_
  · intro hc0
    try simp only [decide_eq_true_eq, decide_eq_false_iff_not, Bool.not_eq_true', Bool.not_eq_false', Bool.not_eq_true, Bool.not_eq_false, Bool.and_eq_true, Bool.or_eq_true, Bool.and_eq_false_iff, Bool.or_eq_false_iff, Bool.not_not, ne_eq, Int.not_lt, Int.not_le, Decidable.not_not, beq_iff_eq, bne_iff_ne] at hc0
    refine c_seq ?_
    refine c_region ?_
    refine wl (wl_val hl rfl trivial (r_assign hl rfl) ?_)
    clear hl a; intro a hl
    refine w_nil ?_
    have hl2 := hl.add (t := 6) (hl.nil) rfl; clear hl; have hl := hl2; clear hl2
    refine then_normal ?_
    refine wp_ret ?_
    refine blk_ret ?_
    refine then_ret ?_
    refine f_ret1 (F' := []) hl hh rfl rfl (by repeat (first | exact keeps_nil | apply keeps_cons (by repeat (first | exact find_head | apply find_tail)) (by first  | rfl) | exact keeps_self | apply keeps_mv)) ?_
    exact ⟨congrArg (Value.int .i64) (by unfold admC; rw [if_neg (by omega)]), rfl⟩
  · intro hc0
    try simp only [decide_eq_true_eq, decide_eq_false_iff_not, Bool.not_eq_true', Bool.not_eq_false', Bool.not_eq_true, Bool.not_eq_false, Bool.and_eq_true, Bool.or_eq_true, Bool.and_eq_false_iff, Bool.or_eq_false_iff, Bool.not_not, ne_eq, Int.not_lt, Int.not_le, Decidable.not_not, beq_iff_eq, bne_iff_ne] at hc0
    refine c_seq ?_
    refine c_region ?_
    refine wl (wl_val hl rfl trivial (r_move hl rfl) ?_)
    clear hl a; intro a hl
    refine wl (w_call hl hh rfl trivial rfl cal57 rfl (validCore_spec _) (by repeat (first | exact keeps_nil | apply keeps_cons (by repeat (first | exact find_head | apply find_tail)) (by first  | rfl) | exact keeps_self | apply keeps_mv)) trivial ?_)
    clear hl hh a w; intro vc Fc a w hR hl hh
    obtain ⟨rfl, rfl⟩ := hR
    try simp only [List.cons_append, List.nil_append] at hh
    refine wl (wl_val hl rfl trivial (r_not hl rfl) ?_)
    clear hl a; intro a hl
    refine wl (wl_val hl rfl trivial (r_assign hl rfl) ?_)
    clear hl a; intro a hl
    refine w_nil ?_
    have hl2 := hl.add (t := 0) (hl.add (t := 2) (hl.add (t := 11) (hl.nil) rfl) rfl) rfl; clear hl; have hl := hl2; clear hl2
    refine then_normal ?_
    refine c_cond hl rfl ?_ ?_
    · intro hc1
      try simp only [decide_eq_true_eq, decide_eq_false_iff_not, Bool.not_eq_true', Bool.not_eq_false', Bool.not_eq_true, Bool.not_eq_false, Bool.and_eq_true, Bool.or_eq_true, Bool.and_eq_false_iff, Bool.or_eq_false_iff, Bool.not_not, ne_eq, Int.not_lt, Int.not_le, Decidable.not_not, beq_iff_eq, bne_iff_ne] at hc1
      refine c_seq ?_
      refine c_region ?_
      refine wl (wl_val hl rfl trivial (r_assign hl rfl) ?_)
      clear hl a; intro a hl
      refine w_nil ?_
      have hl2 := hl.add (t := 6) (hl.nil) rfl; clear hl; have hl := hl2; clear hl2
      refine then_normal ?_
      refine wp_ret ?_
      refine blk_ret ?_
      refine then_ret ?_
      refine f_ret1 (F' := []) hl hh rfl rfl (by repeat (first | exact keeps_nil | apply keeps_cons (by repeat (first | exact find_head | apply find_tail)) (by first  | rfl) | exact keeps_self | apply keeps_mv)) ?_
      exact ⟨congrArg (Value.int .i64) (by unfold admC; rw [if_pos (by omega), if_neg (by omega)]), rfl⟩
    · intro hc1
      try simp only [decide_eq_true_eq, decide_eq_false_iff_not, Bool.not_eq_true', Bool.not_eq_false', Bool.not_eq_true, Bool.not_eq_false, Bool.and_eq_true, Bool.or_eq_true, Bool.and_eq_false_iff, Bool.or_eq_false_iff, Bool.not_not, ne_eq, Int.not_lt, Int.not_le, Decidable.not_not, beq_iff_eq, bne_iff_ne] at hc1
      obtain ⟨an, rfl⟩ : ∃ n : Nat, a_ = n := ⟨a_.toNat, by omega⟩
      refine c_seq ?_
      refine c_region ?_
      refine wl (wl_val hl rfl trivial (r_move hl rfl) ?_)
      clear hl a; intro a hl
      refine wl (wl_val hl rfl trivial (r_move hl rfl) ?_)
      clear hl a; intro a hl
      refine wl (w_call hl hh rfl trivial rfl cal43 rfl (roomFor_spec hS bg h32 an (by omega)) (by repeat (first | exact keeps_nil | apply keeps_cons (by repeat (first | exact find_head | apply find_tail)) (by first  | rfl) | exact keeps_self | apply keeps_mv)) (mem_keep hh hpre) ?_)
      clear hl hh a w; intro vc Fc a w hR hl hh
      obtain ⟨rfl, rfl⟩ := hR
      try simp only [List.cons_append, List.nil_append] at hh
      refine wl (wl_val hl rfl trivial (r_not hl rfl) ?_)
      clear hl a; intro a hl
      refine wl (wl_val hl rfl trivial (r_assign hl rfl) ?_)
      clear hl a; intro a hl
      refine w_nil ?_
      have hl2 := hl.add (t := 15) (hl.nil) rfl; clear hl; have hl := hl2; clear hl2
      refine then_normal ?_
      refine c_cond hl rfl ?_ ?_
      · intro hc2
        try simp only [decide_eq_true_eq, decide_eq_false_iff_not, Bool.not_eq_true', Bool.not_eq_false', Bool.not_eq_true, Bool.not_eq_false, Bool.and_eq_true, Bool.or_eq_true, Bool.and_eq_false_iff, Bool.or_eq_false_iff, Bool.not_not, ne_eq, Int.not_lt, Int.not_le, Decidable.not_not, beq_iff_eq, bne_iff_ne] at hc2
        refine c_seq ?_
        refine c_region ?_
        refine wl (wl_val hl rfl trivial (r_assign hl rfl) ?_)
        clear hl a; intro a hl
        refine w_nil ?_
        have hl2 := hl.add (t := 6) (hl.nil) rfl; clear hl; have hl := hl2; clear hl2
        refine then_normal ?_
        refine wp_ret ?_
        refine blk_ret ?_
        refine then_ret ?_
        refine f_ret1 (F' := []) hl hh rfl rfl (by repeat (first | exact keeps_nil | apply keeps_cons (by repeat (first | exact find_head | apply find_tail)) (by first  | rfl) | exact keeps_self | apply keeps_mv)) ?_
        exact ⟨congrArg (Value.int .i64) (by unfold admC; rw [if_pos (by omega), if_pos (by omega), Int.toNat_natCast, if_neg (by simp; assumption)]), rfl⟩
      · intro hc2
        try simp only [decide_eq_true_eq, decide_eq_false_iff_not, Bool.not_eq_true', Bool.not_eq_false', Bool.not_eq_true, Bool.not_eq_false, Bool.and_eq_true, Bool.or_eq_true, Bool.and_eq_false_iff, Bool.or_eq_false_iff, Bool.not_not, ne_eq, Int.not_lt, Int.not_le, Decidable.not_not, beq_iff_eq, bne_iff_ne] at hc2
        refine wp_skip ?_
        refine blk_normal ?_
        refine then_normal ?_
        refine c_seq ?_
        refine c_region ?_
        refine wl (wl_val hl rfl trivial (r_assign hl rfl) ?_)
        clear hl a; intro a hl
        refine w_nil ?_
        have hl2 := hl.add (t := 6) (hl.nil) rfl; clear hl; have hl := hl2; clear hl2
        refine then_normal ?_
        refine wp_ret ?_
        refine f_ret1 (F' := []) hl hh rfl rfl (by repeat (first | exact keeps_nil | apply keeps_cons (by repeat (first | exact find_head | apply find_tail)) (by first  | rfl) | exact keeps_self | apply keeps_mv)) ?_
        exact ⟨congrArg (Value.int .i64) (by unfold admC; rw [if_pos (by omega), if_pos (by omega), Int.toNat_natCast, if_pos (by assumption)]), rfl⟩

theorem withdraw_some {tb : Tab} {f : Nat → Value} {E : Nat → List (Nat × Obj)} (hT : TabF tb f E) (bt : Nat) (hI : TI tb) (t : Nat) (ht : t < 16) {r : Nat} (hw : waitOn tb t 20 = some r) : Sp Tryz.prog 55 #[.pointer (some ⟨bt, 0, none⟩), .int .i64 (t : Int)] (tbL bt f E) (fun v F' => ∃ f' E' Ew p c, v = .tuple #[.int .i64 (r : Int), .slice p (withT tb t r).2.length c, .int .i64 0] ∧ F' = tbL bt f' E' ++ Ew ∧ TabF (withT tb t r).1 f' E' ∧ Row (.slice p (withT tb t r).2.length c) (withT tb t r).2.length (fl tkc (withT tb t r).2) 1 57 Ew) := by
  refine spk_post (withdraw_tab hT bt hI t ht) ?_
  rintro v F' (⟨h, _⟩ | ⟨r', h, f', E', Ew, vw, rfl, rfl, h1, h2⟩)
  · rw [hw] at h; cases h
  · rw [hw] at h; cases h
    obtain ⟨p, c, rfl⟩ := row_val h2
    exact ⟨f', E', Ew, p, c, rfl, rfl, h1, h2⟩

set_option maxHeartbeats 4000000 in
theorem withdraw_spec {tb : Tab} {ft : Nat → Value} {Et : Nat → List (Nat × Obj)} (hT : TabF tb ft Et) (bt : Nat) (hI : TI tb) (f : Nat → Value) (hf1 : f 1 = .pointer (some ⟨bt, 0, none⟩)) (ep : Nat → Int) (b : Bt) (bg bb t : Nat) (ht : t < 16) (Q : Int) (hep : EpI Q ep) (hQ : 0 ≤ Q ∧ Q ≤ 100000000) : Sp Tryz.prog 48 #[.pointer (some ⟨bg, 0, none⟩), .pointer (some ⟨bb, 0, none⟩), .int .i64 (t : Int)] ((bg, C (arrL 146 (fgE f ep)) 94) :: (bb, C (arrL 50 (btV b)) 118) :: tbL bt ft Et) (fun v F' => v = .int .i64 (wdK tb (ep, b) t).2.2 ∧ ∃ f' E', F' = (bg, C (arrL 146 (fgE f (wdK tb (ep, b) t).2.1.1)) 94) :: (bb, C (arrL 50 (btV (wdK tb (ep, b) t).2.1.2)) 118) :: tbL bt f' E' ∧ TabF (wdK tb (ep, b) t).1 f' E') := by
  refine f_enter (args := [.pointer (some ⟨bg, 0, none⟩), .pointer (some ⟨bb, 0, none⟩), .int .i64 (t : Int)]) Tryz.func48 rfl Tryz.ntmps48 rfl ?_
  intro w0 w a hpre hl hh
  have hfp : ∀ e, fgE f e 1 = .pointer (some ⟨bt, 0, none⟩) := fun e => by rw [fgE_out _ _ (by omega)]; exact hf1
  have het := hep.bd t ht
  simp only [slotsFrom, Nat.reduceAdd] at hl
  refine c_seq ?_
  refine c_region ?_
  refine wl (wl_val hl rfl trivial (r_assign hl rfl) ?_)
  clear hl a; intro a hl
  refine w_nil ?_
  have hl2 := hl.add (t := 0) (hl.add (t := 1) (hl.add (t := 2) (hl.nil) rfl) rfl) rfl; clear hl; have hl := hl2; clear hl2
  refine then_normal ?_
  refine c_seq ?_
  refine c_region ?_
  refine wl (wl_val hl rfl trivial (r_move hl rfl) ?_)
  clear hl a; intro a hl
  refine wl (wl_val hl rfl trivial (r_nilCheck hl rfl) ?_)
  clear hl a; intro a hl
  refine wl (wl_val hl rfl trivial (r_field hl rfl fld94_1) ?_)
  clear hl a; intro a hl
  refine wl (w_load hl hh rfl trivial one26 rfl (by repeat (first | exact find_head | apply find_tail | apply find_skip)) (by first | exact fg_p1 (hfp _) | rfl) ?_)
  clear hl a; intro a hl
  refine wl (wl_val hl rfl trivial (r_move hl rfl) ?_)
  clear hl a; intro a hl
  refine wl (w_call hl hh rfl trivial rfl cal54 rfl (waitOn2 hT bt hI t) (by repeat (first | exact keeps_nil | apply keeps_cons (by repeat (first | exact find_head | apply find_tail | apply find_skip)) (by first  | rfl) | exact keeps_self | exact keeps_left | apply keeps_app | apply keeps_mv | apply keeps_skip)) (memK (E := tbL bt ft Et) hh (by repeat (first | exact keeps_nil | apply keeps_cons (by repeat (first | exact find_head | apply find_tail | apply find_skip)) (by first  | rfl) | exact keeps_self | exact keeps_left | apply keeps_app | apply keeps_mv | apply keeps_skip))) ?_)
  clear hl hh a w; intro vc Fc a w hR hl hh
  rcases hR with ⟨rw_, hw, rfl, rfl⟩ | ⟨hw, rfl, rfl⟩
  ·
    try simp only [List.cons_append, List.nil_append, List.append_nil] at hh
    have hr := (wait_mem hw).1
    have hI2 := hI.withd (t := t) hr
    refine wl (wl_val hl rfl trivial (r_move hl rfl) ?_)
    clear hl a; intro a hl
    refine wl (wl_val hl rfl trivial (r_extract hl rfl (by simp only [List.getElem?_toArray, List.getElem?_cons_zero, List.getElem?_cons_succ]; rfl)) ?_)
    clear hl a; intro a hl
    refine wl (wl_val hl rfl trivial (r_extract hl rfl (by simp only [List.getElem?_toArray, List.getElem?_cons_zero, List.getElem?_cons_succ]; rfl)) ?_)
    clear hl a; intro a hl
    refine wl (wl_val hl rfl trivial (r_assign hl rfl) ?_)
    clear hl a; intro a hl
    refine wl (wl_val hl rfl trivial (r_assign hl rfl) ?_)
    clear hl a; intro a hl
    refine w_nil ?_
    have hl2 := hl.add (t := 0) (hl.add (t := 1) (hl.add (t := 2) (hl.add (t := 7) (hl.add (t := 8) (hl.nil) rfl) rfl) rfl) rfl) rfl; clear hl; have hl := hl2; clear hl2
    refine then_normal ?_
    refine c_seq ?_
    refine c_seq ?_
    refine c_region ?_
    refine wl (wl_val hl rfl trivial (r_move hl rfl) ?_)
    clear hl a; intro a hl
    refine wl (wl_val hl rfl trivial (r_not hl rfl) ?_)
    clear hl a; intro a hl
    refine w_nil ?_
    have hl2 := hl.add (t := 0) (hl.add (t := 1) (hl.add (t := 2) (hl.add (t := 7) (hl.add (t := 23) (hl.nil) rfl) rfl) rfl) rfl) rfl; clear hl; have hl := hl2; clear hl2
    refine then_normal ?_
    refine c_condF hl rfl ?_
    refine wp_skip ?_
    refine then_normal ?_
    refine c_seq ?_
    refine c_region ?_
    refine wl (wl_val hl rfl trivial (r_move hl rfl) ?_)
    clear hl a; intro a hl
    refine wl (wl_val hl rfl trivial (r_nilCheck hl rfl) ?_)
    clear hl a; intro a hl
    refine wl (wl_val hl rfl trivial (r_field hl rfl fld94_1) ?_)
    clear hl a; intro a hl
    refine wl (w_load hl hh rfl trivial one26 rfl (by repeat (first | exact find_head | apply find_tail | apply find_skip)) (by first | exact fg_p1 (hfp _) | rfl) ?_)
    clear hl a; intro a hl
    refine wl (wl_val hl rfl trivial (r_move hl rfl) ?_)
    clear hl a; intro a hl
    refine wl (w_call hl hh rfl trivial rfl cal41 rfl (holders_spec hT bt rw_ hr) (by repeat (first | exact keeps_nil | apply keeps_cons (by repeat (first | exact find_head | apply find_tail | apply find_skip)) (by first  | rfl) | exact keeps_self | exact keeps_left | apply keeps_app | apply keeps_mv | apply keeps_skip)) (memK (E := tbL bt ft Et) hh (by repeat (first | exact keeps_nil | apply keeps_cons (by repeat (first | exact find_head | apply find_tail | apply find_skip)) (by first  | rfl) | exact keeps_self | exact keeps_left | apply keeps_app | apply keeps_mv | apply keeps_skip))) ?_)
    clear hl hh a w; intro vc Fc a w hR hl hh
    obtain ⟨rfl, rfl⟩ := hR
    try simp only [List.cons_append, List.nil_append, List.append_assoc, List.append_nil] at hh
    refine wl (wl_val hl rfl trivial (r_assign hl rfl) ?_)
    clear hl a; intro a hl
    refine w_nil ?_
    have hl2 := hl.add (t := 0) (hl.add (t := 1) (hl.add (t := 2) (hl.add (t := 7) (hl.add (t := 9) (hl.nil) rfl) rfl) rfl) rfl) rfl; clear hl; have hl := hl2; clear hl2
    refine then_normal ?_
    refine c_seq ?_
    refine c_region ?_
    refine wl (wl_val hl rfl trivial (r_move hl rfl) ?_)
    clear hl a; intro a hl
    refine wl (wl_val hl rfl trivial (r_nilCheck hl rfl) ?_)
    clear hl a; intro a hl
    refine wl (wl_val hl rfl trivial (r_field hl rfl fld94_1) ?_)
    clear hl a; intro a hl
    refine wl (w_load hl hh rfl trivial one26 rfl (by repeat (first | exact find_head | apply find_tail | apply find_skip)) (by first | exact fg_p1 (hfp _) | rfl) ?_)
    clear hl a; intro a hl
    refine wl (wl_val hl rfl trivial (r_move hl rfl) ?_)
    clear hl a; intro a hl
    refine wl (w_call hl hh rfl trivial rfl cal55 rfl (withdraw_some hT bt hI t ht hw) (by repeat (first | exact keeps_nil | apply keeps_cons (by repeat (first | exact find_head | apply find_tail | apply find_skip)) (by first  | rfl) | exact keeps_self | exact keeps_left | apply keeps_app | apply keeps_mv | apply keeps_skip)) trivial ?_)
    clear hl hh a w; intro vc Fc a w hR hl hh
    obtain ⟨f', E', Ew, p9, c9, rfl, rfl, hT2, hRw⟩ := hR
    try simp only [List.cons_append, List.nil_append, List.append_assoc, List.append_nil] at hh
    refine wl (wl_val hl rfl trivial (r_move hl rfl) ?_)
    clear hl a; intro a hl
    refine wl (wl_val hl rfl trivial (r_extract hl rfl (by simp only [List.getElem?_toArray, List.getElem?_cons_zero, List.getElem?_cons_succ]; rfl)) ?_)
    clear hl a; intro a hl
    refine wl (wl_val hl rfl trivial (r_extract hl rfl (by simp only [List.getElem?_toArray, List.getElem?_cons_zero, List.getElem?_cons_succ]; rfl)) ?_)
    clear hl a; intro a hl
    refine wl (wl_val hl rfl trivial (r_extract hl rfl (by simp only [List.getElem?_toArray, List.getElem?_cons_zero, List.getElem?_cons_succ]; rfl)) ?_)
    clear hl a; intro a hl
    refine wl (wl_val hl rfl trivial (r_assign hl rfl) ?_)
    clear hl a; intro a hl
    refine wl (wl_val hl rfl trivial (r_assign hl rfl) ?_)
    clear hl a; intro a hl
    refine wl (wl_val hl rfl trivial (r_assign hl rfl) ?_)
    clear hl a; intro a hl
    refine w_nil ?_
    have hl2 := hl.add (t := 0) (hl.add (t := 1) (hl.add (t := 2) (hl.add (t := 7) (hl.add (t := 9) (hl.add (t := 11) (hl.add (t := 12) (hl.nil) rfl) rfl) rfl) rfl) rfl) rfl) rfl; clear hl; have hl := hl2; clear hl2
    refine then_normal ?_
    refine c_seq ?_
    refine c_seq ?_
    refine c_region ?_
    refine wl (wl_val hl rfl trivial (r_move hl rfl) ?_)
    clear hl a; intro a hl
    refine wl (wl_val hl rfl trivial (r_neq hl rfl rfl) ?_)
    clear hl a; intro a hl
    refine w_nil ?_
    have hl2 := hl.add (t := 0) (hl.add (t := 1) (hl.add (t := 2) (hl.add (t := 7) (hl.add (t := 9) (hl.add (t := 11) (hl.add (t := 12) (hl.add (t := 41) (hl.nil) rfl) rfl) rfl) rfl) rfl) rfl) rfl) rfl; clear hl; have hl := hl2; clear hl2
    refine then_normal ?_
    refine c_cond hl rfl ?_ ?_
    · intro hc1
      try simp only [decide_eq_true_eq, decide_eq_false_iff_not, Bool.not_eq_true', Bool.not_eq_false', Bool.not_eq_true, Bool.not_eq_false, Bool.and_eq_true, Bool.or_eq_true, Bool.and_eq_false_iff, Bool.or_eq_false_iff, Bool.not_not, ne_eq, Int.not_lt, Int.not_le, Decidable.not_not, beq_iff_eq, bne_iff_ne] at hc1
      exfalso; first | contradiction | omega
    · intro hc1
      try simp only [decide_eq_true_eq, decide_eq_false_iff_not, Bool.not_eq_true', Bool.not_eq_false', Bool.not_eq_true, Bool.not_eq_false, Bool.and_eq_true, Bool.or_eq_true, Bool.and_eq_false_iff, Bool.or_eq_false_iff, Bool.not_not, ne_eq, Int.not_lt, Int.not_le, Decidable.not_not, beq_iff_eq, bne_iff_ne] at hc1
      refine wp_skip ?_
      refine then_normal ?_
      refine c_seq ?_
      refine c_region ?_
      refine wl (wl_val hl rfl trivial (r_move hl rfl) ?_)
      clear hl a; intro a hl
      refine wl (wl_val hl rfl trivial (r_move hl rfl) ?_)
      clear hl a; intro a hl
      refine wl (wl_val hl rfl trivial (r_move hl rfl) ?_)
      clear hl a; intro a hl
      refine wl (w_call hl hh rfl trivial rfl cal71 rfl (endWait_spec f ep b bg bb t ht (by omega)) (by repeat (first | exact keeps_nil | apply keeps_cons (by repeat (first | exact find_head | apply find_tail | apply find_skip)) (by first  | rfl) | exact keeps_self | exact keeps_left | apply keeps_app | apply keeps_mv | apply keeps_skip)) trivial ?_)
      clear hl hh a w; intro vc Fc a w hR hl hh
      obtain ⟨rfl, rfl⟩ := hR
      try simp only [List.cons_append, List.nil_append, List.append_assoc, List.append_nil] at hh
      refine w_nil ?_
      have hl2 := hl.add (t := 0) (hl.add (t := 1) (hl.add (t := 7) (hl.add (t := 9) (hl.add (t := 11) (hl.nil) rfl) rfl) rfl) rfl) rfl; clear hl; have hl := hl2; clear hl2
      refine then_normal ?_
      refine c_seq ?_
      refine c_region ?_
      refine wl (wl_val hl rfl trivial (r_move hl rfl) ?_)
      clear hl a; intro a hl
      refine wl (wl_val hl rfl trivial (r_move hl rfl) ?_)
      clear hl a; intro a hl
      refine wl (wl_val hl rfl trivial (r_move hl rfl) ?_)
      clear hl a; intro a hl
      refine wl (wl_val hl rfl trivial (r_move hl rfl) ?_)
      clear hl a; intro a hl
      refine wl (wl_val hl rfl trivial (r_move hl rfl) ?_)
      clear hl a; intro a hl
      refine wl (w_call hl hh rfl trivial rfl cal45 rfl (hc_spec hT2 bt hI2.1 f hf1 (updI ep t (ep t + 1)) (endB b ep t) bg bb rw_ hr (holdB tb rw_) p9 c9 (withT tb t rw_).2 Ew hRw hI2.2.1 (by have := hI2.2.2; omega) (Q + 1) (hep.up t) (by omega)) (by repeat (first | exact keeps_nil | apply keeps_cons (by repeat (first | exact find_head | apply find_tail | apply find_skip)) (by first  | rfl) | exact keeps_self | exact keeps_left | apply keeps_app | apply keeps_mv | apply keeps_skip)) trivial ?_)
      clear hl hh a w; intro vc Fc a w hR hl hh
      obtain ⟨rfl, rfl⟩ := hR
      try simp only [List.cons_append, List.nil_append, List.append_assoc, List.append_nil] at hh
      refine w_nil ?_
      have hl2 := hl.nil; clear hl; have hl := hl2; clear hl2
      refine then_normal ?_
      refine c_seq ?_
      refine c_region ?_
      refine wl (wl_val hl rfl trivial (r_assign hl rfl) ?_)
      clear hl a; intro a hl
      refine w_nil ?_
      have hl2 := hl.add (t := 6) (hl.nil) rfl; clear hl; have hl := hl2; clear hl2
      refine then_normal ?_
      refine wp_ret ?_
      refine f_ret1 (F' := ((bg, C (arrL 146 (fgE f (wdK tb (ep, b) t).2.1.1)) 94) :: (bb, C (arrL 50 (btV (wdK tb (ep, b) t).2.1.2)) 118) :: tbL bt f' E')) hl hh rfl rfl (by repeat (first | exact keeps_nil | apply keeps_cons (by repeat (first | exact find_head | apply find_tail | apply find_skip)) (by first  | rw [wdK_some hw] | rfl) | exact keeps_self | exact keeps_left | apply keeps_app | apply keeps_mv | apply keeps_skip)) ?_
      rw [wdK_some hw]; exact ⟨rfl, f', E', rfl, hT2⟩
  ·
    try simp only [List.cons_append, List.nil_append, List.append_nil] at hh
    refine wl (wl_val hl rfl trivial (r_move hl rfl) ?_)
    clear hl a; intro a hl
    refine wl (wl_val hl rfl trivial (r_extract hl rfl (by simp only [List.getElem?_toArray, List.getElem?_cons_zero, List.getElem?_cons_succ]; rfl)) ?_)
    clear hl a; intro a hl
    refine wl (wl_val hl rfl trivial (r_extract hl rfl (by simp only [List.getElem?_toArray, List.getElem?_cons_zero, List.getElem?_cons_succ]; rfl)) ?_)
    clear hl a; intro a hl
    refine wl (wl_val hl rfl trivial (r_assign hl rfl) ?_)
    clear hl a; intro a hl
    refine wl (wl_val hl rfl trivial (r_assign hl rfl) ?_)
    clear hl a; intro a hl
    refine w_nil ?_
    have hl2 := hl.add (t := 0) (hl.add (t := 1) (hl.add (t := 2) (hl.add (t := 7) (hl.add (t := 8) (hl.nil) rfl) rfl) rfl) rfl) rfl; clear hl; have hl := hl2; clear hl2
    refine then_normal ?_
    refine c_seq ?_
    refine c_seq ?_
    refine c_region ?_
    refine wl (wl_val hl rfl trivial (r_move hl rfl) ?_)
    clear hl a; intro a hl
    refine wl (wl_val hl rfl trivial (r_not hl rfl) ?_)
    clear hl a; intro a hl
    refine w_nil ?_
    have hl2 := hl.add (t := 0) (hl.add (t := 1) (hl.add (t := 2) (hl.add (t := 7) (hl.add (t := 23) (hl.nil) rfl) rfl) rfl) rfl) rfl; clear hl; have hl := hl2; clear hl2
    refine then_normal ?_
    refine c_condT hl rfl ?_
    refine c_seq ?_
    refine c_region ?_
    refine wl (wl_val hl rfl trivial (r_assign hl rfl) ?_)
    clear hl a; intro a hl
    refine w_nil ?_
    have hl2 := hl.add (t := 6) (hl.nil) rfl; clear hl; have hl := hl2; clear hl2
    refine then_normal ?_
    refine wp_ret ?_
    refine then_ret ?_
    refine f_ret1 (F' := ((bg, C (arrL 146 (fgE f ep)) 94) :: (bb, C (arrL 50 (btV b)) 118) :: tbL bt ft Et)) hl hh rfl rfl (by repeat (first | exact keeps_nil | apply keeps_cons (by repeat (first | exact find_head | apply find_tail | apply find_skip)) (by first  | rfl) | exact keeps_self | exact keeps_left | apply keeps_app | apply keeps_mv | apply keeps_skip)) ?_
    rw [wdK_none hw]; exact ⟨rfl, ft, Et, rfl, hT⟩
end Go.Proofs.Qxb6500911aGreatDoor

import Derived.Test.Qxb6500915aGreatDoorE2
namespace Go.Proofs.Qxb6500915aGreatDoor
open Go.Eng
set_option linter.unusedVariables false
set_option linter.unusedSimpArgs false

/-! ## Tarjan's components, plain -/
section tarjan
/-- u reaches v along edges -/
inductive Rch (E : Nat → Nat → Prop) : Nat → Nat → Prop
  | refl (u : Nat) : Rch E u u
  | step {u v w : Nat} : Rch E u v → E v w → Rch E u w
theorem Rch.trans {E : Nat → Nat → Prop} {u v w : Nat} (h1 : Rch E u v) (h2 : Rch E v w) : Rch E u w := by
  induction h2 with
  | refl => exact h1
  | step _ h ih => exact .step ih h
theorem Rch.one {E : Nat → Nat → Prop} {u v : Nat} (h : E u v) : Rch E u v := .step (.refl u) h
def upd (f : Nat → Int) (i : Nat) (x : Int) : Nat → Int := fun j => if j = i then x else f j
theorem upd_self (f : Nat → Int) (i : Nat) (x : Int) : upd f i x i = x := if_pos rfl
theorem upd_ne {f : Nat → Int} {i j : Nat} {x : Int} (h : ¬ j = i) : upd f i x j = f j := if_neg h
/-- what holds between two turns of the inner loop; dp u = the targets of u's edges, nx u = how many of them were taken -/
structure TJ (n : Nat) (dp : Nat → List Nat) (sn lw cp : Nat → Int) (O P od : List Nat) (nx : Nat → Nat) (pend : Option Nat) (clock count : Int) : Prop where
  /-- seen times are below the clock; open and closed nodes are seen; all are nodes -/
  on : ∀ x, x ∈ O → x < n ∧ 0 ≤ sn x ∧ sn x < clock ∧ cp x = -1
  cl : ∀ x, x < n → 0 ≤ cp x → 0 ≤ sn x ∧ cp x < count
  un : ∀ x, x < n → sn x = -1 ∨ x ∈ O ∨ 0 ≤ cp x
  us : ∀ x, x < n → sn x = -1 → cp x = -1 ∧ nx x = 0
  inj : ∀ x y, x ∈ O → y ∈ O → sn x = sn y → x = y
  /-- the open stack and the path rise in time -/
  ord : O.Pairwise fun x y => sn x < sn y
  pth : P.Pairwise fun x y => sn x < sn y
  sub : ∀ x, x ∈ P → x ∈ O
  /-- low points at an open node that is reached -/
  lle : ∀ x, x ∈ O → lw x ≤ sn x
  lop : ∀ x, x ∈ O → ∃ y, y ∈ O ∧ sn y = lw x ∧ Rch (fun u v => v ∈ dp u) x y
  /-- a node on the path reaches every open node not older -/
  prc : ∀ p x, p ∈ P → x ∈ O → sn p ≤ sn x → Rch (fun u v => v ∈ dp u) p x
  pex : ∀ x, x ∈ O → ∃ p, p ∈ P ∧ sn p ≤ sn x
  /-- open, off the path -/
  off : ∀ x, x ∈ O → x ∉ P → lw x < sn x ∧ nx x = (dp x).length
  par : ∀ p x, p ∈ P → x ∈ O → x ∉ P → sn p ≤ sn x → (∀ q, q ∈ P → sn p < sn q → sn x < sn q) → lw p ≤ lw x
  /-- edges taken -/
  tk : ∀ x k v, x ∈ O → k < nx x → (dp x)[k]? = some v → 0 ≤ cp v ∨ (v ∈ O ∧ lw x ≤ sn v) ∨ pend = some v
  /-- closed nodes -/
  ced : ∀ x v, x < n → 0 ≤ cp x → v ∈ dp x → 0 ≤ cp v ∧ cp v ≤ cp x
  crc : ∀ x y, x < n → y < n → 0 ≤ cp x → cp x = cp y → Rch (fun u v => v ∈ dp u) x y
  odm : ∀ x, x ∈ od ↔ x < n ∧ 0 ≤ cp x
  ods : od.Pairwise fun x y => cp x ≤ cp y
  odn : od.Nodup
variable {n : Nat} {dp : Nat → List Nat} {sn lw cp : Nat → Int} {O P od : List Nat} {nx : Nat → Nat} {clock count : Int} {u : Nat}
/-- the pending node gets its time -/
theorem TJ.see (h : TJ n dp sn lw cp O P od nx (some u) clock count) (hu : u < n) (hs : sn u = -1) (hc : 0 ≤ clock) (hp : P = [] ∨ ∃ P0 p, P = P0 ++ [p] ∧ u ∈ dp p) :
    TJ n dp (upd sn u clock) (upd lw u clock) cp (O ++ [u]) (P ++ [u]) od nx none (clock + 1) count := by
  have huO : u ∉ O := fun hm => by have := (h.on u hm).2.1; omega
  have hne : ∀ x, x ∈ O → ¬ x = u := fun x hx e => huO (e ▸ hx)
  have hsx : ∀ x, x ∈ O → upd sn u clock x = sn x := fun x hx => upd_ne (hne x hx)
  have hlx : ∀ x, x ∈ O → upd lw u clock x = lw x := fun x hx => upd_ne (hne x hx)
  have hcu := (h.us u hu hs).1
  have hnu := (h.us u hu hs).2
  refine ⟨?_, ?_, ?_, ?_, ?_, ?_, ?_, ?_, ?_, ?_, ?_, ?_, ?_, ?_, ?_, h.ced, h.crc, h.odm, h.ods, h.odn⟩
  · intro x hx
    rcases List.mem_append.1 hx with hx | hx
    · have := h.on x hx; rw [hsx x hx]; exact ⟨this.1, this.2.1, by omega, this.2.2.2⟩
    · rw [List.mem_singleton.1 hx, upd_self]; exact ⟨hu, hc, by omega, hcu⟩
  · intro x hx hcx
    have := h.cl x hx hcx
    by_cases e : x = u
    · rw [e, hcu] at hcx; omega
    · rw [upd_ne e]; exact this
  · intro x hx
    by_cases e : x = u
    · exact .inr (.inl (by rw [e]; simp))
    · rw [upd_ne e]
      rcases h.un x hx with h1 | h1 | h1
      · exact .inl h1
      · exact .inr (.inl (List.mem_append_left _ h1))
      · exact .inr (.inr h1)
  · intro x hx hsx9
    by_cases e : x = u
    · rw [e, upd_self] at hsx9; omega
    · rw [upd_ne e] at hsx9; exact h.us x hx hsx9
  · intro x y hx hy e
    rcases List.mem_append.1 hx with hx | hx <;> rcases List.mem_append.1 hy with hy | hy
    · rw [hsx x hx, hsx y hy] at e; exact h.inj x y hx hy e
    · rw [List.mem_singleton.1 hy, hsx x hx, upd_self] at e; have := (h.on x hx).2.2.1; omega
    · rw [List.mem_singleton.1 hx, hsx y hy, upd_self] at e; have := (h.on y hy).2.2.1; omega
    · rw [List.mem_singleton.1 hx, List.mem_singleton.1 hy]
  · rw [List.pairwise_append]
    refine ⟨h.ord.imp_of_mem fun {a b} ha hb q => by rw [hsx a ha, hsx b hb]; exact q, List.pairwise_singleton _ _, fun a ha b hb => ?_⟩
    rw [List.mem_singleton.1 hb, hsx a ha, upd_self]; exact (h.on a ha).2.2.1
  · rw [List.pairwise_append]
    refine ⟨h.pth.imp_of_mem fun {a b} ha hb q => by rw [hsx a (h.sub a ha), hsx b (h.sub b hb)]; exact q, List.pairwise_singleton _ _, fun a ha b hb => ?_⟩
    rw [List.mem_singleton.1 hb, hsx a (h.sub a ha), upd_self]; exact (h.on a (h.sub a ha)).2.2.1
  · intro x hx
    rcases List.mem_append.1 hx with hx | hx
    · exact List.mem_append_left _ (h.sub x hx)
    · exact List.mem_append_right _ hx
  · intro x hx
    rcases List.mem_append.1 hx with hx | hx
    · rw [hsx x hx, hlx x hx]; exact h.lle x hx
    · rw [List.mem_singleton.1 hx, upd_self, upd_self]; exact Int.le_refl _
  · intro x hx
    rcases List.mem_append.1 hx with hx | hx
    · obtain ⟨y, hy, e, hr⟩ := h.lop x hx
      exact ⟨y, List.mem_append_left _ hy, by rw [hsx y hy, hlx x hx]; exact e, hr⟩
    · exact ⟨u, by simp, by rw [List.mem_singleton.1 hx, upd_self, upd_self], by rw [List.mem_singleton.1 hx]; exact .refl u⟩
  · intro p x hpp hx hle
    rcases List.mem_append.1 hpp with hpp | hpp
    · rcases List.mem_append.1 hx with hx | hx
      · rw [hsx p (h.sub p hpp), hsx x hx] at hle; exact h.prc p x hpp hx hle
      · rw [List.mem_singleton.1 hx]
        rcases hp with hp | ⟨P0, q, e, he⟩
        · rw [hp] at hpp; cases hpp
        · have hq : q ∈ P := by rw [e]; simp
          refine .step (h.prc p q hpp (h.sub q hq) ?_) he
          by_cases e9 : p = q
          · rw [e9]; exact Int.le_refl _
          · have h9 := h.pth
            rw [e, List.pairwise_append] at h9
            rw [e] at hpp
            rcases List.mem_append.1 hpp with h8 | h8
            · exact Int.le_of_lt (h9.2.2 p h8 q (by simp))
            · exact absurd (List.mem_singleton.1 h8) e9
    · rw [List.mem_singleton.1 hpp] at hle ⊢
      rcases List.mem_append.1 hx with hx | hx
      · rw [upd_self, hsx x hx] at hle; have := (h.on x hx).2.2.1; omega
      · rw [List.mem_singleton.1 hx]; exact .refl u
  · intro x hx
    rcases List.mem_append.1 hx with hx | hx
    · obtain ⟨p, h1, h2⟩ := h.pex x hx
      exact ⟨p, List.mem_append_left _ h1, by rw [hsx p (h.sub p h1), hsx x hx]; exact h2⟩
    · exact ⟨u, by simp, by rw [List.mem_singleton.1 hx]; exact Int.le_refl _⟩
  · intro x hx hxP
    rcases List.mem_append.1 hx with hx | hx
    · rw [hsx x hx, hlx x hx]; exact h.off x hx fun h9 => hxP (List.mem_append_left _ h9)
    · exact absurd (List.mem_append_right _ hx) hxP
  · intro p x hpp hx hxP hle hlast
    rcases List.mem_append.1 hx with hx | hx
    · rcases List.mem_append.1 hpp with hpp | hpp
      · rw [hsx p (h.sub p hpp), hsx x hx] at hle
        rw [hlx p (h.sub p hpp), hlx x hx]
        refine h.par p x hpp hx (fun h9 => hxP (List.mem_append_left _ h9)) hle fun q hq hlt => ?_
        have := hlast q (List.mem_append_left _ hq) (by rw [hsx p (h.sub p hpp), hsx q (h.sub q hq)]; exact hlt)
        rw [hsx x hx, hsx q (h.sub q hq)] at this; exact this
      · rw [List.mem_singleton.1 hpp, upd_self, hsx x hx] at hle; have := (h.on x hx).2.2.1; omega
    · exact absurd (List.mem_append_right _ hx) hxP
  · intro x k v hx hk hv
    rcases List.mem_append.1 hx with hx | hx
    · rw [hlx x hx]
      rcases h.tk x k v hx hk hv with h1 | ⟨h1, h2⟩ | h1
      · exact .inl h1
      · exact .inr (.inl ⟨List.mem_append_left _ h1, by rw [hsx v h1]; exact h2⟩)
      · injection h1 with h1
        refine .inr (.inl ⟨by rw [← h1]; simp, ?_⟩)
        rw [← h1, upd_self]
        have := h.lle x hx; have := (h.on x hx).2.2.1; omega
    · rw [List.mem_singleton.1 hx, hnu] at hk; omega
def updN (f : Nat → Nat) (i x : Nat) : Nat → Nat := fun j => if j = i then x else f j
theorem updN_self (f : Nat → Nat) (i x : Nat) : updN f i x i = x := if_pos rfl
theorem updN_ne {f : Nat → Nat} {i j x : Nat} (h : ¬ j = i) : updN f i x j = f j := if_neg h
/-- an edge of the node in hand is taken -/
theorem TJ.edge (h : TJ n dp sn lw cp O P od nx none clock count) {v : Nat} {lv : Int} {pend : Option Nat} (hu : u ∈ P) (hv : (dp u)[nx u]? = some v) (hlv : lv ≤ lw u) (hl : lv = lw u ∨ (lv = sn v ∧ v ∈ O)) (hq : 0 ≤ cp v ∨ (v ∈ O ∧ lv ≤ sn v) ∨ pend = some v) :
    TJ n dp sn (upd lw u lv) cp O P od (updN nx u (nx u + 1)) pend clock count := by
  have huO := h.sub u hu
  have hl9 : ∀ x, upd lw u lv x ≤ lw x := fun x => by
    by_cases e : x = u
    · rw [e, upd_self]; exact hlv
    · rw [upd_ne e]; exact Int.le_refl _
  refine ⟨h.on, h.cl, h.un, ?_, h.inj, h.ord, h.pth, h.sub, ?_, ?_, h.prc, h.pex, ?_, ?_, ?_, h.ced, h.crc, h.odm, h.ods, h.odn⟩
  · intro x hx hs
    have h1 := h.us x hx hs
    refine ⟨h1.1, ?_⟩
    rw [updN_ne (fun e => by have := (h.on u huO).2.1; rw [← e] at this; omega)]; exact h1.2
  · intro x hx
    have := h.lle x hx; have := hl9 x; omega
  · intro x hx
    by_cases e : x = u
    · rw [e, upd_self]
      rcases hl with hl | ⟨hl, hvO⟩
      · rw [hl]; exact h.lop u huO
      · exact ⟨v, hvO, hl.symm, .one (List.mem_of_getElem? hv)⟩
    · rw [upd_ne e]; exact h.lop x hx
  · intro x hx hxP
    have e : ¬ x = u := fun e => hxP (e ▸ hu)
    rw [upd_ne e, updN_ne e]; exact h.off x hx hxP
  · intro p x hp hx hxP hle hlast
    have e : ¬ x = u := fun e => hxP (e ▸ hu)
    have := h.par p x hp hx hxP hle hlast
    have := hl9 p
    rw [upd_ne e]; omega
  · intro x k w hx hk hw
    by_cases e : x = u
    · subst e
      rw [updN_self] at hk
      rw [upd_self]
      by_cases ek : k = nx x
      · rw [ek, hv] at hw; injection hw with hw; subst hw; exact hq
      · rcases h.tk x k w hx (by omega) hw with h1 | ⟨h1, h2⟩ | h1
        · exact .inl h1
        · exact .inr (.inl ⟨h1, by omega⟩)
        · cases h1
    · rw [updN_ne e] at hk
      rw [upd_ne e]
      rcases h.tk x k w hx hk hw with h1 | h1 | h1
      · exact .inl h1
      · exact .inr (.inl h1)
      · cases h1
theorem TJ.up {P0 : List Nat} (h : TJ n dp sn lw cp O (P0 ++ [u]) od nx none clock count) (hr : lw u < sn u) : ∃ q, q ∈ P0 ∧ sn q ≤ lw u := by
  obtain ⟨y, hy, e, _⟩ := h.lop u (h.sub u (by simp))
  obtain ⟨q, hq, hle⟩ := h.pex y hy
  rcases List.mem_append.1 hq with h1 | h1
  · exact ⟨q, h1, by omega⟩
  · rw [List.mem_singleton.1 h1] at hle; omega
/-- a node that is no root is left -/
theorem TJ.leave {P1 : List Nat} {p : Nat} {lp : Int} (h : TJ n dp sn lw cp O ((P1 ++ [p]) ++ [u]) od nx none clock count) (hnx : nx u = (dp u).length) (hr : lw u < sn u) (hup : u ∈ dp p) (hlp : lp ≤ lw p ∧ lp ≤ lw u) (hl : lp = lw p ∨ lp = lw u) :
    TJ n dp sn (upd lw p lp) cp O (P1 ++ [p]) od nx none clock count := by
  have hpP : p ∈ (P1 ++ [p]) ++ [u] := by simp
  have huP : u ∈ (P1 ++ [p]) ++ [u] := by simp
  have hpO := h.sub p hpP
  have huO := h.sub u huP
  have hpu : sn p < sn u := by
    have h9 := h.pth
    rw [List.pairwise_append] at h9
    exact h9.2.2 p (by simp) u (by simp)
  have hl9 : ∀ x, upd lw p lp x ≤ lw x := fun x => by
    by_cases e : x = p
    · rw [e, upd_self]; exact hlp.1
    · rw [upd_ne e]; exact Int.le_refl _
  have hsub : ∀ x, x ∈ P1 ++ [p] → x ∈ (P1 ++ [p]) ++ [u] := fun x hx => List.mem_append_left _ hx
  have huN : u ∉ P1 ++ [p] := fun hm => by
    have h9 := h.pth
    rw [List.pairwise_append] at h9
    have := h9.2.2 u hm u (by simp)
    omega
  have hple : ∀ q, q ∈ P1 ++ [p] → sn q ≤ sn p := fun q hq => by
    have h9 := h.pth
    rw [List.pairwise_append] at h9
    have h8 := h9.1
    rw [List.pairwise_append] at h8
    rcases List.mem_append.1 hq with h7 | h7
    · exact Int.le_of_lt (h8.2.2 q h7 p (by simp))
    · rw [List.mem_singleton.1 h7]; exact Int.le_refl _
  refine ⟨h.on, h.cl, h.un, h.us, h.inj, h.ord, ?_, fun x hx => h.sub x (hsub x hx), ?_, ?_, fun q x hq hx => h.prc q x (hsub q hq) hx, ?_, ?_, ?_, ?_, h.ced, h.crc, h.odm, h.ods, h.odn⟩
  · have h9 := h.pth
    rw [List.pairwise_append] at h9
    exact h9.1
  · intro x hx
    have := h.lle x hx; have := hl9 x; omega
  · intro x hx
    by_cases e : x = p
    · rw [e, upd_self]
      rcases hl with hl | hl
      · rw [hl]; exact h.lop p hpO
      · obtain ⟨y, hy, e9, hr9⟩ := h.lop u huO
        exact ⟨y, hy, by rw [hl]; exact e9, (Rch.one hup).trans hr9⟩
    · rw [upd_ne e]; exact h.lop x hx
  · intro x hx
    obtain ⟨q, hq, hle⟩ := h.pex x hx
    rcases List.mem_append.1 hq with h1 | h1
    · exact ⟨q, h1, hle⟩
    · rw [List.mem_singleton.1 h1] at hle
      exact ⟨p, by simp, by omega⟩
  · intro x hx hxP
    have e : ¬ x = p := fun e => hxP (by rw [e]; simp)
    rw [upd_ne e]
    by_cases e2 : x = u
    · rw [e2]; exact ⟨hr, hnx⟩
    · refine h.off x hx fun hm => ?_
      rcases List.mem_append.1 hm with h1 | h1
      · exact hxP h1
      · exact e2 (List.mem_singleton.1 h1)
  · intro q x hq hx hxP hle hlast
    have e : ¬ x = p := fun e => hxP (by rw [e]; simp)
    rw [upd_ne e]
    by_cases e2 : x = u
    · -- the last before u is p
      have hqp : q = p := by
        by_cases e3 : q = p
        · exact e3
        · have h1 : sn q < sn p := by
            have h2 := hple q hq
            have h3 : ¬ sn q = sn p := fun e4 => e3 (h.inj q p (h.sub q (hsub q hq)) hpO e4)
            omega
          have := hlast p (by simp) h1
          rw [e2] at this; omega
      rw [hqp, upd_self, e2]; exact hlp.2
    · have hxN : x ∉ (P1 ++ [p]) ++ [u] := fun hm => by
        rcases List.mem_append.1 hm with h1 | h1
        · exact hxP h1
        · exact e2 (List.mem_singleton.1 h1)
      by_cases hux : sn u ≤ sn x
      · -- its last was u
        have h1 := h.par u x huP hx hxN hux (fun r hr9 hlt => by
          rcases List.mem_append.1 hr9 with h2 | h2
          · have := hple r h2; omega
          · rw [List.mem_singleton.1 h2] at hlt; omega)
        have hqp : q = p := by
          by_cases e3 : q = p
          · exact e3
          · have h1 : sn q < sn p := by
              have h2 := hple q hq
              have h3 : ¬ sn q = sn p := fun e4 => e3 (h.inj q p (h.sub q (hsub q hq)) hpO e4)
              omega
            have := hlast p (by simp) h1
            omega
        rw [hqp, upd_self]; omega
      · have h1 := h.par q x (hsub q hq) hx hxN hle (fun r hr9 hlt => by
          rcases List.mem_append.1 hr9 with h2 | h2
          · exact hlast r h2 hlt
          · rw [List.mem_singleton.1 h2]; omega)
        have := hl9 q; omega
  · intro x k w hx hk hw
    have := hl9 x
    rcases h.tk x k w hx hk hw with h1 | ⟨h1, h2⟩ | h1
    · exact .inl h1
    · exact .inr (.inl ⟨h1, by omega⟩)
    · cases h1
/-- a root is closed, with all that lies above it on the open stack -/
theorem TJ.close {P0 O1 X : List Nat} (h : TJ n dp sn lw cp (O1 ++ u :: X) (P0 ++ [u]) od nx none clock count) (hnx : nx u = (dp u).length) (hr : lw u = sn u) (hcn : 0 ≤ count) (hdn : ∀ x v, x < n → v ∈ dp x → v < n) :
    TJ n dp sn lw (fun x => if x ∈ u :: X then count else cp x) O1 P0 (od ++ (u :: X).reverse) nx none clock (count + 1) := by
  have hord := h.ord
  rw [List.pairwise_append, List.pairwise_cons] at hord
  have hXO : ∀ x, x ∈ u :: X → x ∈ O1 ++ u :: X := fun x hx => List.mem_append_right _ hx
  have hOO : ∀ x, x ∈ O1 → x ∈ O1 ++ u :: X := fun x hx => List.mem_append_left _ hx
  have hge : ∀ x, x ∈ u :: X → sn u ≤ sn x := fun x hx => by
    rcases List.mem_cons.1 hx with e | h1
    · rw [e]; exact Int.le_refl _
    · exact Int.le_of_lt (hord.2.1.1 x h1)
  have hlt : ∀ x, x ∈ O1 → sn x < sn u := fun x hx => hord.2.2 x hx u (by simp)
  have hin : ∀ x, x ∈ O1 ++ u :: X → sn u ≤ sn x → x ∈ u :: X := fun x hx hs => by
    rcases List.mem_append.1 hx with h1 | h1
    · have := hlt x h1; omega
    · exact h1
  have hin1 : ∀ x, x ∈ O1 ++ u :: X → sn x < sn u → x ∈ O1 := fun x hx hs => by
    rcases List.mem_append.1 hx with h1 | h1
    · exact h1
    · have := hge x h1; omega
  have hPlt : ∀ q, q ∈ P0 → sn q < sn u := fun q hq => by
    have h9 := h.pth
    rw [List.pairwise_append] at h9
    exact h9.2.2 q hq u (by simp)
  have huP : u ∈ P0 ++ [u] := by simp
  have hPle : ∀ q, q ∈ P0 ++ [u] → sn q ≤ sn u := fun q hq => by
    rcases List.mem_append.1 hq with h1 | h1
    · exact Int.le_of_lt (hPlt q h1)
    · rw [List.mem_singleton.1 h1]; exact Int.le_refl _
  have hoff : ∀ x, x ∈ X → x ∉ P0 ++ [u] := fun x hx hm => by
    have h1 := hord.2.1.1 x hx
    have h2 := hPle x hm
    omega
  have hnxX : ∀ x, x ∈ u :: X → nx x = (dp x).length := fun x hx => by
    rcases List.mem_cons.1 hx with e | h1
    · rw [e]; exact hnx
    · exact (h.off x (hXO x hx) (hoff x h1)).2
  have hlwX : ∀ x, x ∈ u :: X → sn u ≤ lw x := fun x hx => by
    rcases List.mem_cons.1 hx with e | h1
    · rw [e, hr]; exact Int.le_refl _
    · have := h.par u x huP (hXO x hx) (hoff x h1) (hge x hx) (fun q hq hl9 => by have := hPle q hq; omega)
      omega
  have hback : ∀ (m : Nat) x, x ∈ u :: X → (sn x).toNat ≤ m → Rch (fun u v => v ∈ dp u) x u := by
    intro m
    induction m with
    | zero =>
      intro x hx hm
      rcases List.mem_cons.1 hx with e | h1
      · rw [e]; exact .refl u
      · have h2 := hord.2.1.1 x h1
        have h3 := (h.on u (hXO u (by simp))).2.1
        omega
    | succ m ih =>
      intro x hx hm
      rcases List.mem_cons.1 hx with e | h1
      · rw [e]; exact .refl u
      · obtain ⟨y, hy, e, hrc⟩ := h.lop x (hXO x hx)
        have h2 := (h.off x (hXO x hx) (hoff x h1)).1
        have h3 := hlwX x hx
        have h4 := (h.on y hy).2.1
        exact hrc.trans (ih y (hin y hy (by omega)) (by omega))
  have hnot : ∀ x, x ∈ O1 → x ∉ u :: X := fun x hx hm => by have := hlt x hx; have := hge x hm; omega
  have hcpX : ∀ x, 0 ≤ cp x → x ∉ u :: X := fun x hx hm => by have := (h.on x (hXO x hm)).2.2.2; omega
  refine ⟨?_, ?_, ?_, ?_, fun x y hx hy => h.inj x y (hOO x hx) (hOO y hy), hord.1, ?_, ?_, fun x hx => h.lle x (hOO x hx), ?_, fun p x hp hx => h.prc p x (List.mem_append_left _ hp) (hOO x hx), ?_, ?_, ?_, ?_, ?_, ?_, ?_, ?_, ?_⟩
  · intro x hx
    have := h.on x (hOO x hx)
    simp only [if_neg (hnot x hx)]; exact this
  · intro x hx hc
    by_cases e : x ∈ u :: X
    · simp only [if_pos e]; exact ⟨(h.on x (hXO x e)).2.1, by omega⟩
    · simp only [if_neg e] at hc ⊢
      have := h.cl x hx hc; exact ⟨this.1, by omega⟩
  · intro x hx
    by_cases e : x ∈ u :: X
    · simp only [if_pos e]; exact .inr (.inr hcn)
    · simp only [if_neg e]
      rcases h.un x hx with h1 | h1 | h1
      · exact .inl h1
      · rcases List.mem_append.1 h1 with h2 | h2
        · exact .inr (.inl h2)
        · exact absurd h2 e
      · exact .inr (.inr h1)
  · intro x hx hs
    have e : x ∉ u :: X := fun e => by have := (h.on x (hXO x e)).2.1; omega
    simp only [if_neg e]; exact h.us x hx hs
  · have h9 := h.pth
    rw [List.pairwise_append] at h9
    exact h9.1
  · intro x hx
    exact hin1 x (h.sub x (List.mem_append_left _ hx)) (hPlt x hx)
  · intro x hx
    obtain ⟨y, hy, e, hrc⟩ := h.lop x (hOO x hx)
    have := h.lle x (hOO x hx); have := hlt x hx
    exact ⟨y, hin1 y hy (by omega), e, hrc⟩
  · intro x hx
    obtain ⟨p, hp, hle⟩ := h.pex x (hOO x hx)
    rcases List.mem_append.1 hp with h1 | h1
    · exact ⟨p, h1, hle⟩
    · rw [List.mem_singleton.1 h1] at hle; have := hlt x hx; omega
  · intro x hx hxP
    refine h.off x (hOO x hx) fun hm => ?_
    rcases List.mem_append.1 hm with h1 | h1
    · exact hxP h1
    · rw [List.mem_singleton.1 h1] at hx; have := hlt u hx; omega
  · intro p x hp hx hxP hle hlast
    refine h.par p x (List.mem_append_left _ hp) (hOO x hx) (fun hm => ?_) hle (fun q hq hl9 => ?_)
    · rcases List.mem_append.1 hm with h1 | h1
      · exact hxP h1
      · rw [List.mem_singleton.1 h1] at hx; have := hlt u hx; omega
    · rcases List.mem_append.1 hq with h1 | h1
      · exact hlast q h1 hl9
      · rw [List.mem_singleton.1 h1]; exact hlt x hx
  · intro x k w hx hk hw
    by_cases e : w ∈ u :: X
    · simp only [if_pos e]; exact .inl hcn
    · simp only [if_neg e]
      rcases h.tk x k w (hOO x hx) hk hw with h1 | ⟨h1, h2⟩ | h1
      · exact .inl h1
      · rcases List.mem_append.1 h1 with h3 | h3
        · exact .inr (.inl ⟨h3, h2⟩)
        · exact absurd h3 e
      · cases h1
  · intro x v hx hc hv
    by_cases e : x ∈ u :: X
    · simp only [if_pos e]
      obtain ⟨k, hk, rfl⟩ := List.getElem_of_mem hv
      rcases h.tk x k _ (hXO x e) (by rw [hnxX x e]; exact hk) (List.getElem?_eq_getElem hk) with h1 | ⟨h1, h2⟩ | h1
      · rw [if_neg (hcpX _ h1)]
        refine ⟨h1, ?_⟩
        have := (h.cl _ (hdn x _ hx hv) h1).2; omega
      · have h3 := hlwX x e
        rw [if_pos (hin _ h1 (by omega))]
        exact ⟨hcn, Int.le_refl _⟩
      · cases h1
    · simp only [if_neg e] at hc ⊢
      have h1 := h.ced x v hx hc hv
      rw [if_neg (hcpX v h1.1)]; exact h1
  · intro x y hx hy hc he
    by_cases e1 : x ∈ u :: X <;> by_cases e2 : y ∈ u :: X
    · exact (hback _ x e1 (Nat.le_refl _)).trans (h.prc u y huP (hXO y e2) (hge y e2))
    · simp only [if_pos e1, if_neg e2] at he hc
      have := (h.cl y hy (by omega)).2; omega
    · simp only [if_neg e1, if_pos e2] at he hc
      have := (h.cl x hx hc).2; omega
    · simp only [if_neg e1, if_neg e2] at he hc
      exact h.crc x y hx hy hc he
  · intro x
    rw [List.mem_append, List.mem_reverse, h.odm x]
    by_cases e : x ∈ u :: X
    · simp only [if_pos e]
      exact ⟨fun _ => ⟨(h.on x (hXO x e)).1, hcn⟩, fun _ => .inr e⟩
    · simp only [if_neg e]
      exact ⟨fun h9 => h9.resolve_right e, fun h9 => .inl h9⟩
  · rw [List.pairwise_append]
    refine ⟨h.ods.imp_of_mem fun {a b} ha hb q => ?_, ?_, fun a ha b hb => ?_⟩
    · rw [if_neg (hcpX a ((h.odm a).1 ha).2), if_neg (hcpX b ((h.odm b).1 hb).2)]; exact q
    · refine List.Pairwise.imp_of_mem (R := fun _ _ => True) (fun {a b} ha hb _ => ?_) (List.pairwise_of_forall fun _ _ => trivial)
      rw [if_pos (List.mem_reverse.1 ha), if_pos (List.mem_reverse.1 hb)]; exact Int.le_refl _
    · have h1 := (h.odm a).1 ha
      rw [if_neg (hcpX a h1.2), if_pos (List.mem_reverse.1 hb)]
      have := (h.cl a h1.1 h1.2).2; omega
  · rw [List.nodup_append]
    refine ⟨h.odn, ?_, fun a ha b hb e => ?_⟩
    · refine (List.reverse_perm _).nodup_iff.2 ?_
      exact List.Pairwise.imp (R := fun x y => sn x < sn y) (fun {a b} q e => by rw [e] at q; exact absurd q (Int.lt_irrefl _)) (List.pairwise_cons.2 hord.2.1)
    · rw [e] at ha
      exact hcpX b ((h.odm b).1 ha).2 (List.mem_reverse.1 hb)
end tarjan


/-! ## Tarjan's components: the state of the walk -/
section tarjan2
def fnI (l : List Int) (i : Nat) : Int := l.getD i (-1)
theorem fnI_get {l : List Int} {i : Nat} (h : i < l.length) : l[i]? = some (fnI l i) := by
  unfold fnI; rw [List.getD_eq_getElem?_getD, List.getElem?_eq_getElem h]; rfl
theorem fnI_out {l : List Int} {i : Nat} (h : l.length ≤ i) : fnI l i = -1 := by
  unfold fnI; rw [List.getD_eq_getElem?_getD, List.getElem?_eq_none h]; rfl
theorem fnI_set {l : List Int} {i : Nat} {x : Int} (h : i < l.length) : fnI (l.set i x) = upd (fnI l) i x := by
  funext j
  by_cases e : j = i
  · subst e
    rw [upd_self]; unfold fnI
    rw [List.getD_eq_getElem?_getD, List.getElem?_set_self h]; rfl
  · rw [upd_ne e]; unfold fnI
    rw [List.getD_eq_getElem?_getD, List.getD_eq_getElem?_getD, List.getElem?_set_ne (fun h => e h.symm)]
theorem set_fnI {l : List Int} {i : Nat} : l.set i (fnI l i) = l := by
  by_cases h : i < l.length
  · have := fnI_get h
    rw [List.getElem?_eq_getElem h] at this
    injection this with this
    rw [← this]; exact List.set_getElem_self h
  · rw [List.set_eq_of_length_le (by omega)]
theorem nodup_len : ∀ (n : Nat) (l : List Nat), l.Nodup → (∀ x, x ∈ l → x < n) → l.length ≤ n
  | 0, l, _, h => by
    cases l with
    | nil => exact Nat.le_refl _
    | cons a l => exact absurd (h a (by simp)) (Nat.not_lt_zero _)
  | n + 1, l, hn, h => by
    by_cases e : n ∈ l
    · have h1 := nodup_len n (l.erase n) (hn.erase n) (fun x hx => by
        have h2 := h x (List.mem_of_mem_erase hx)
        have h3 : x ≠ n := fun e9 => by subst e9; exact absurd hx (hn.not_mem_erase)
        omega)
      rw [List.length_erase_of_mem e] at h1; omega
    · have := nodup_len n l hn (fun x hx => by
        have h2 := h x hx
        have h3 : x ≠ n := fun e9 => e (e9 ▸ hx)
        omega)
      omega
/-- edges not yet taken -/
def rem (dp : Nat → List Nat) (nx : Nat → Nat) : Nat → Nat
  | 0 => 0
  | n + 1 => rem dp nx n + ((dp n).length - nx n)
theorem rem_same {dp : Nat → List Nat} {nx : Nat → Nat} {u k : Nat} : ∀ n, n ≤ u → rem dp (updN nx u k) n = rem dp nx n
  | 0, _ => rfl
  | n + 1, h => by
    show rem dp (updN nx u k) n + _ = rem dp nx n + _
    rw [rem_same n (by omega), updN_ne (by omega)]
theorem rem_upd {dp : Nat → List Nat} {nx : Nat → Nat} {u : Nat} (hk : nx u < (dp u).length) : ∀ n, u < n → rem dp (updN nx u (nx u + 1)) n + 1 = rem dp nx n
  | 0, h => absurd h (Nat.not_lt_zero _)
  | n + 1, h => by
    show rem dp (updN nx u (nx u + 1)) n + ((dp n).length - _) + 1 = rem dp nx n + _
    by_cases e : u = n
    · subst e
      rw [rem_same u (Nat.le_refl _), updN_self]; omega
    · rw [updN_ne (fun e9 => e e9.symm)]
      have := rem_upd hk n (by omega); omega
theorem rem_le {dp : Nat → List Nat} {nx : Nat → Nat} : ∀ n, rem dp nx n ≤ rem dp (fun _ => 0) n
  | 0 => Nat.le_refl _
  | n + 1 => by
    show rem dp nx n + _ ≤ rem dp (fun _ => 0) n + ((dp n).length - 0)
    have := rem_le (dp := dp) (nx := nx) n; omega
/-- the state, without its pointers -/
structure TC where
  sn : List Int
  lw : List Int
  cp : List Int
  O : List Nat
  od : List Nat
  Q : List (Nat × Nat)
  nx : Nat → Nat
  clk : Nat
  cnt : Nat
def TC.nd (z : TC) : List Nat := z.Q.map Prod.fst
def mz (dp : Nat → List Nat) (n : Nat) (z : TC) : Nat := 2 * rem dp z.nx n + z.Q.length
def TC.J (n : Nat) (dp : Nat → List Nat) (z : TC) (P : List Nat) (pend : Option Nat) : Prop := TJ n dp (fnI z.sn) (fnI z.lw) (fnI z.cp) z.O P z.od z.nx pend (z.clk : Int) (z.cnt : Int)
structure TB (n : Nat) (dp : Nat → List Nat) (M r : Nat) (z : TC) : Prop where
  l1 : z.sn.length = n
  l2 : z.lw.length = n
  l3 : z.cp.length = n
  ck : z.clk = z.O.length + z.od.length
  cn : z.cnt ≤ z.od.length
  ms : mz dp n z ≤ M
  lo : ∀ x, x < r → fnI z.sn x ≠ -1
  rt : fnI z.sn r ≠ -1 ∨ r ∈ z.nd
  nq : ∀ q, q ∈ z.Q → z.nx q.1 = q.2
  nl : ∀ x, z.nx x ≤ (dp x).length
  ch : ∀ Q1 p q Q2, z.Q = Q1 ++ p :: q :: Q2 → q.1 ∈ dp p.1
  hd : ∀ x v, x < n → v ∈ dp x → v < n
/-- at the head of the inner loop -/
structure TI (n : Nat) (dp : Nat → List Nat) (M r : Nat) (z : TC) : Prop where
  b : TB n dp M r z
  t : (∃ Q0 u, z.Q = Q0 ++ [(u, 0)] ∧ u < n ∧ fnI z.sn u = -1 ∧ z.J n dp (Q0.map Prod.fst) (some u)) ∨ z.J n dp z.nd none
/-- the node in hand has its time -/
structure TA (n : Nat) (dp : Nat → List Nat) (M r : Nat) (z : TC) (Q0 : List (Nat × Nat)) (u k : Nat) : Prop where
  b : TB n dp M r z
  q : z.Q = Q0 ++ [(u, k)]
  t : z.J n dp z.nd none
variable {n M r : Nat} {dp : Nat → List Nat} {z : TC} {Q0 : List (Nat × Nat)} {u k : Nat}
theorem snoc_inj {α : Type} {a b : List α} {x y : α} (h : a ++ [x] = b ++ [y]) : a = b ∧ x = y := by
  have := List.append_inj' h rfl
  exact ⟨this.1, by injection this.2⟩
theorem TA.uO (h : TA n dp M r z Q0 u k) : u ∈ z.O := h.t.sub u (by unfold TC.nd; rw [h.q]; simp)
theorem TA.un (h : TA n dp M r z Q0 u k) : u < n := (h.t.on u h.uO).1
theorem TA.nk (h : TA n dp M r z Q0 u k) : z.nx u = k := h.b.nq (u, k) (by rw [h.q]; simp)
theorem TI.uN (h : TI n dp M r z) (hq : z.Q = Q0 ++ [(u, k)]) : u < n := by
  rcases h.t with ⟨Q1, v, h1, h2, _, _⟩ | h1
  · have := (snoc_inj (hq.symm.trans h1)).2
    injection this with h3 h4; omega
  · exact (h1.on u (h1.sub u (by unfold TC.nd; rw [hq]; simp))).1
theorem TI.old (h : TI n dp M r z) (hq : z.Q = Q0 ++ [(u, k)]) (hs : ¬ fnI z.sn u = -1) : TA n dp M r z Q0 u k := by
  rcases h.t with ⟨Q1, v, h1, h2, h3, _⟩ | h1
  · have := (snoc_inj (hq.symm.trans h1)).2
    injection this with h4 h5
    rw [h4] at hs; exact absurd h3 hs
  · exact ⟨h.b, hq, h1⟩
theorem TB.clk_le (h : TB n dp M r z) {P : List Nat} {pd : Option Nat} (hJ : z.J n dp P pd) : z.clk ≤ n := by
  rw [h.ck, ← List.length_append]
  refine nodup_len n _ ?_ ?_
  · rw [List.nodup_append]
    refine ⟨?_, hJ.odn, fun a ha b hb e => ?_⟩
    · exact List.Pairwise.imp (R := fun x y => fnI z.sn x < fnI z.sn y) (fun {a b} q e => by rw [e] at q; exact absurd q (Int.lt_irrefl _)) hJ.ord
    · rw [← e] at hb
      have h1 := (hJ.on a ha).2.2.2
      have h2 := ((hJ.odm a).1 hb).2
      omega
  · intro x hx
    rcases List.mem_append.1 hx with h1 | h1
    · exact (hJ.on x h1).1
    · exact ((hJ.odm x).1 h1).1
theorem TI.bd (h : TI n dp M r z) : z.clk ≤ n := by
  rcases h.t with ⟨Q1, v, _, _, _, h1⟩ | h1
  · exact h.b.clk_le h1
  · exact h.b.clk_le h1
theorem TI.new (h : TI n dp M r z) (hq : z.Q = Q0 ++ [(u, k)]) (hs : fnI z.sn u = -1) : TA n dp M r ⟨z.sn.set u (z.clk : Int), z.lw.set u (z.clk : Int), z.cp, z.O ++ [u], z.od, z.Q, z.nx, z.clk + 1, z.cnt⟩ Q0 u k := by
  rcases h.t with ⟨Q1, v, h1, h2, h3, hJ⟩ | h1
  · have h9 := snoc_inj (hq.symm.trans h1)
    obtain ⟨rfl, h8⟩ := h9
    injection h8 with h4 h5
    subst h4; subst h5
    have b := h.b
    have hus : u < z.sn.length := by rw [b.l1]; exact h2
    have hul : u < z.lw.length := by rw [b.l2]; exact h2
    have e1 := fnI_set (x := (z.clk : Int)) hus
    have e2 := fnI_set (x := (z.clk : Int)) hul
    refine ⟨⟨by simp [b.l1], by simp [b.l2], b.l3, ?_, b.cn, b.ms, ?_, ?_, b.nq, b.nl, b.ch, b.hd⟩, hq, ?_⟩
    · show z.clk + 1 = (z.O ++ [u]).length + z.od.length
      rw [List.length_append, b.ck, List.length_singleton]; omega
    · intro x hx
      show fnI (z.sn.set u (z.clk : Int)) x ≠ -1
      rw [e1]
      by_cases e : x = u
      · rw [e, upd_self]; omega
      · rw [upd_ne e]; exact b.lo x hx
    · show fnI (z.sn.set u (z.clk : Int)) r ≠ -1 ∨ _
      rw [e1]
      by_cases e : r = u
      · rw [e, upd_self]; exact .inl (by omega)
      · rw [upd_ne e]; exact b.rt
    · show TJ n dp (fnI (z.sn.set u (z.clk : Int))) (fnI (z.lw.set u (z.clk : Int))) (fnI z.cp) (z.O ++ [u]) (z.Q.map Prod.fst) z.od z.nx none ((z.clk + 1 : Nat) : Int) (z.cnt : Int)
      rw [e1, e2, hq, List.map_append, show ((z.clk + 1 : Nat) : Int) = (z.clk : Int) + 1 by omega]
      refine TJ.see hJ h2 hs (by omega) ?_
      rcases List.eq_nil_or_concat Q0 with e | ⟨Q1, p, e⟩
      · exact .inl (by rw [e]; rfl)
      · rw [List.concat_eq_append] at e
        refine .inr ⟨Q1.map Prod.fst, p.1, by rw [e, List.map_append]; rfl, ?_⟩
        exact b.ch Q1 p (u, 0) [] (by rw [hq, e]; simp)
  · exfalso
    have h2 := (h1.on u (h1.sub u (by unfold TC.nd; rw [hq]; simp))).2.1
    omega
theorem set_snoc {α : Type} {Q0 : List α} {a b : α} : (Q0 ++ [a]).set Q0.length b = Q0 ++ [b] := by
  rw [List.set_append_right _ _ (Nat.le_refl _), Nat.sub_self]; rfl
theorem TA.nod (h : TA n dp M r z Q0 u k) {q : Nat × Nat} (hq : q ∈ Q0) : ¬ q.1 = u := fun e => by
  have h9 := h.t.pth
  unfold TC.nd at h9
  rw [h.q, List.map_append, List.pairwise_append] at h9
  have := h9.2.2 q.1 (List.mem_map.2 ⟨q, hq, rfl⟩) u (by simp)
  rw [e] at this; exact absurd this (Int.lt_irrefl _)
theorem ch_snoc {dp : Nat → List Nat} {Q0 : List (Nat × Nat)} {u k k' : Nat} (h : ∀ Q1 p q Q2, Q0 ++ [(u, k)] = Q1 ++ p :: q :: Q2 → q.1 ∈ dp p.1) : ∀ Q1 p q Q2, Q0 ++ [(u, k')] = Q1 ++ p :: q :: Q2 → q.1 ∈ dp p.1 := by
  intro Q1 p q Q2 e
  rcases List.eq_nil_or_concat Q2 with e2 | ⟨Q3, s, e2⟩
  · subst e2
    have e3 : Q0 ++ [(u, k')] = (Q1 ++ [p]) ++ [q] := by rw [e]; simp
    obtain ⟨e4, e5⟩ := snoc_inj e3
    have := h Q1 p (u, k) [] (by rw [e4]; simp)
    rw [← e5]; exact this
  · rw [List.concat_eq_append] at e2
    subst e2
    have e3 : Q0 ++ [(u, k')] = (Q1 ++ p :: q :: Q3) ++ [s] := by rw [e]; simp
    obtain ⟨e4, e5⟩ := snoc_inj e3
    exact h Q1 p q (Q3 ++ [(u, k)]) (by rw [e4]; simp)
theorem ch_init {dp : Nat → List Nat} {Q0 : List (Nat × Nat)} {a : Nat × Nat} (h : ∀ Q1 p q Q2, Q0 ++ [a] = Q1 ++ p :: q :: Q2 → q.1 ∈ dp p.1) : ∀ Q1 p q Q2, Q0 = Q1 ++ p :: q :: Q2 → q.1 ∈ dp p.1 := by
  intro Q1 p q Q2 e
  exact h Q1 p q (Q2 ++ [a]) (by rw [e]; simp)
theorem ch_push {dp : Nat → List Nat} {Q0 : List (Nat × Nat)} {u k v : Nat} (h : ∀ Q1 p q Q2, Q0 ++ [(u, k)] = Q1 ++ p :: q :: Q2 → q.1 ∈ dp p.1) (hv : v ∈ dp u) : ∀ Q1 p q Q2, (Q0 ++ [(u, k)]) ++ [(v, 0)] = Q1 ++ p :: q :: Q2 → q.1 ∈ dp p.1 := by
  intro Q1 p q Q2 e
  rcases List.eq_nil_or_concat Q2 with e2 | ⟨Q3, s, e2⟩
  · subst e2
    have e3 : (Q0 ++ [(u, k)]) ++ [(v, 0)] = (Q1 ++ [p]) ++ [q] := by rw [e]; simp
    obtain ⟨e4, e5⟩ := snoc_inj e3
    obtain ⟨_, e6⟩ := snoc_inj e4
    rw [← e5, ← e6]; exact hv
  · rw [List.concat_eq_append] at e2
    subst e2
    have e3 : (Q0 ++ [(u, k)]) ++ [(v, 0)] = (Q1 ++ p :: q :: Q3) ++ [s] := by rw [e]; simp
    obtain ⟨e4, e5⟩ := snoc_inj e3
    exact h Q1 p q Q3 e4
/-- the books after an edge was taken -/
theorem TA.bk (h : TA n dp M r z Q0 u k) (hk : k < (dp u).length) : (∀ q, q ∈ Q0 ++ [(u, k + 1)] → updN z.nx u (k + 1) q.1 = q.2) ∧ (∀ x, updN z.nx u (k + 1) x ≤ (dp x).length) ∧ rem dp (updN z.nx u (k + 1)) n + 1 = rem dp z.nx n := by
  refine ⟨fun q hq => ?_, fun x => ?_, ?_⟩
  · rcases List.mem_append.1 hq with h1 | h1
    · rw [updN_ne (h.nod h1)]
      exact h.b.nq q (by rw [h.q]; exact List.mem_append_left _ h1)
    · rw [List.mem_singleton.1 h1, updN_self]
  · by_cases e : x = u
    · rw [e, updN_self]; omega
    · rw [updN_ne e]; exact h.b.nl x
  · have := rem_upd (dp := dp) (nx := z.nx) (u := u) (by rw [h.nk]; exact hk) n h.un
    rw [h.nk] at this; exact this
theorem mz_eq (dp : Nat → List Nat) (n : Nat) (z : TC) : mz dp n z = 2 * rem dp z.nx n + z.Q.length := rfl
theorem TA.qlen (h : TA n dp M r z Q0 u k) : z.Q.length = Q0.length + 1 := by rw [h.q]; simp
/-- an edge to a node not yet seen -/
theorem TA.eNew (h : TA n dp M r z Q0 u k) {v : Nat} (hv : (dp u)[k]? = some v) (hs : fnI z.sn v = -1) :
    TI n dp M r ⟨z.sn, z.lw, z.cp, z.O, z.od, Q0 ++ [(u, k + 1)] ++ [(v, 0)], updN z.nx u (k + 1), z.clk, z.cnt⟩ ∧ mz dp n ⟨z.sn, z.lw, z.cp, z.O, z.od, Q0 ++ [(u, k + 1)] ++ [(v, 0)], updN z.nx u (k + 1), z.clk, z.cnt⟩ < mz dp n z := by
  have hk : k < (dp u).length := (List.getElem?_eq_some_iff.1 hv).1
  have hvm := List.mem_of_getElem? hv
  have b := h.b
  have hvn := b.hd u v h.un hvm
  obtain ⟨h1, h2, h3⟩ := h.bk hk
  have hql := h.qlen
  have hm9 : mz dp n ⟨z.sn, z.lw, z.cp, z.O, z.od, Q0 ++ [(u, k + 1)] ++ [(v, 0)], updN z.nx u (k + 1), z.clk, z.cnt⟩ < mz dp n z := by
    rw [mz_eq, mz_eq]; simp only [List.length_append, List.length_singleton]; omega
  have hvu : ¬ v = u := fun e => by have := (h.t.on u h.uO).2.1; rw [e] at hs; omega
  refine ⟨⟨⟨b.l1, b.l2, b.l3, b.ck, b.cn, ?_, b.lo, ?_, ?_, h2, ?_, b.hd⟩, .inl ⟨Q0 ++ [(u, k + 1)], v, rfl, hvn, hs, ?_⟩⟩, hm9⟩
  · have := b.ms; omega
  · rcases b.rt with h9 | h9
    · exact .inl h9
    · refine .inr ?_
      unfold TC.nd at h9 ⊢
      rw [h.q] at h9
      simp only [List.map_append, List.mem_append, List.map_cons, List.map_nil] at h9 ⊢
      rcases h9 with h9 | h9
      · exact .inl (.inl h9)
      · exact .inl (.inr h9)
  · intro q hq
    rcases List.mem_append.1 hq with h9 | h9
    · exact h1 q h9
    · rw [List.mem_singleton.1 h9]
      show updN z.nx u (k + 1) v = 0
      rw [updN_ne hvu]; exact (h.t.us v hvn hs).2
  · exact ch_push (ch_snoc (by rw [← h.q]; exact b.ch)) hvm
  · have h9 := h.t
    unfold TC.J TC.nd at h9
    rw [h.q] at h9
    have h8 := TJ.edge (v := v) (lv := fnI z.lw u) (pend := some v) h9 (u := u) (by simp) (by rw [h.nk]; exact hv) (Int.le_refl _) (.inl rfl) (.inr (.inr rfl))
    rw [h.nk] at h8
    rw [List.map_append] at h8 ⊢
    have e9 : upd (fnI z.lw) u (fnI z.lw u) = fnI z.lw := by funext j; by_cases e : j = u; (· rw [e, upd_self]); (· rw [upd_ne e])
    rw [e9] at h8
    exact h8
/-- an edge to a node that was seen -/
theorem TA.eSeen (h : TA n dp M r z Q0 u k) {v : Nat} {lw' : List Int} (hv : (dp u)[k]? = some v) (hs : ¬ fnI z.sn v = -1) (hl : (fnI z.cp v = -1 ∧ lw' = z.lw.set u (min (fnI z.lw u) (fnI z.sn v))) ∨ (¬ fnI z.cp v = -1 ∧ lw' = z.lw)) :
    TI n dp M r ⟨z.sn, lw', z.cp, z.O, z.od, Q0 ++ [(u, k + 1)], updN z.nx u (k + 1), z.clk, z.cnt⟩ ∧ mz dp n ⟨z.sn, lw', z.cp, z.O, z.od, Q0 ++ [(u, k + 1)], updN z.nx u (k + 1), z.clk, z.cnt⟩ < mz dp n z := by
  have hk : k < (dp u).length := (List.getElem?_eq_some_iff.1 hv).1
  have hvm := List.mem_of_getElem? hv
  have b := h.b
  have hvn := b.hd u v h.un hvm
  obtain ⟨h1, h2, h3⟩ := h.bk hk
  have hql := h.qlen
  have hm9 : mz dp n ⟨z.sn, lw', z.cp, z.O, z.od, Q0 ++ [(u, k + 1)], updN z.nx u (k + 1), z.clk, z.cnt⟩ < mz dp n z := by
    rw [mz_eq, mz_eq]; simp only [List.length_append, List.length_singleton]; omega
  have hul : u < z.lw.length := by rw [b.l2]; exact h.un
  have hll : lw'.length = n := by
    rcases hl with ⟨_, e⟩ | ⟨_, e⟩
    · rw [e, List.length_set]; exact b.l2
    · rw [e]; exact b.l2
  refine ⟨⟨⟨b.l1, hll, b.l3, b.ck, b.cn, ?_, b.lo, ?_, h1, h2, ?_, b.hd⟩, .inr ?_⟩, hm9⟩
  · have := b.ms; omega
  · rcases b.rt with h9 | h9
    · exact .inl h9
    · refine .inr ?_
      unfold TC.nd at h9 ⊢
      rw [h.q] at h9
      simp only [List.map_append, List.map_cons, List.map_nil] at h9 ⊢
      exact h9
  · exact ch_snoc (by rw [← h.q]; exact b.ch)
  · have h9 := h.t
    unfold TC.J TC.nd at h9
    have hP : z.Q.map Prod.fst = (Q0 ++ [(u, k + 1)]).map Prod.fst := by rw [h.q, List.map_append, List.map_append]; rfl
    rw [hP] at h9
    rcases hl with ⟨hc, e⟩ | ⟨hc, e⟩
    · have hvO : v ∈ z.O := by
        rcases h9.un v hvn with h8 | h8 | h8
        · exact absurd h8 hs
        · exact h8
        · omega
      have h8 := TJ.edge (v := v) (lv := min (fnI z.lw u) (fnI z.sn v)) (pend := none) h9 (u := u) (by simp) (by rw [h.nk]; exact hv) (Int.min_le_left _ _) (by
        by_cases e9 : fnI z.lw u ≤ fnI z.sn v
        · exact .inl (Int.min_eq_left e9)
        · exact .inr ⟨Int.min_eq_right (by omega), hvO⟩) (.inr (.inl ⟨hvO, Int.min_le_right _ _⟩))
      rw [h.nk] at h8
      subst e
      show TJ n dp (fnI z.sn) (fnI (z.lw.set u (min (fnI z.lw u) (fnI z.sn v)))) _ _ _ _ _ _ _ _
      rw [fnI_set hul]; exact h8
    · have hcv : 0 ≤ fnI z.cp v := by
        rcases h9.un v hvn with h8 | h8 | h8
        · exact absurd h8 hs
        · exact absurd (h9.on v h8).2.2.2 hc
        · exact h8
      have h8 := TJ.edge (v := v) (lv := fnI z.lw u) (pend := none) h9 (u := u) (by simp) (by rw [h.nk]; exact hv) (Int.le_refl _) (.inl rfl) (.inl hcv)
      rw [h.nk] at h8
      subst e
      have e9 : upd (fnI z.lw) u (fnI z.lw u) = fnI z.lw := by funext j; by_cases e : j = u; (· rw [e, upd_self]); (· rw [upd_ne e])
      rw [e9] at h8
      exact h8
/-- the node in hand is popped: what becomes of low -/
structure PopL (n : Nat) (dp : Nat → List Nat) (M r : Nat) (z : TC) (Q0 : List (Nat × Nat)) (u : Nat) (lw' : List Int) : Prop where
  len : lw'.length = n
  eq : fnI lw' u = fnI z.lw u
  ne : ¬ fnI z.lw u = fnI z.sn u → TI n dp M r ⟨z.sn, lw', z.cp, z.O, z.od, Q0, z.nx, z.clk, z.cnt⟩
  rt : fnI z.lw u = fnI z.sn u → lw' = z.lw
  mz : mz dp n ⟨z.sn, lw', z.cp, z.O, z.od, Q0, z.nx, z.clk, z.cnt⟩ < mz dp n z
theorem TA.full (h : TA n dp M r z Q0 u k) (hk : ¬ k < (dp u).length) : z.nx u = (dp u).length := by
  have := h.b.nl u; rw [h.nk] at this ⊢; omega
theorem TA.pop0 (h : TA n dp M r z Q0 u k) (hk : ¬ k < (dp u).length) (h0 : Q0 = []) : PopL n dp M r z Q0 u z.lw := by
  subst h0
  have hql := h.qlen
  refine ⟨h.b.l2, rfl, fun hne => ?_, fun _ => rfl, ?_⟩
  · exfalso
    have h9 := h.t
    unfold TC.J TC.nd at h9
    rw [h.q] at h9
    have := h9.lle u h.uO
    obtain ⟨q, hq, _⟩ := TJ.up (P0 := []) (u := u) h9 (by omega)
    cases hq
  · rw [mz_eq, mz_eq]; simp only [List.length_nil]; omega
theorem TA.root_kept (h : TA n dp M r z Q0 u k) (h9 : fnI z.sn r ≠ -1 ∨ r ∈ z.nd) : fnI z.sn r ≠ -1 ∨ r ∈ Q0.map Prod.fst := by
  rcases h9 with h9 | h9
  · exact .inl h9
  · unfold TC.nd at h9
    rw [h.q, List.map_append, List.mem_append] at h9
    rcases h9 with h9 | h9
    · exact .inr h9
    · rw [show r = u by simpa using h9]
      have := (h.t.on u h.uO).2.1
      exact .inl (by omega)
theorem TA.pop1 (h : TA n dp M r z Q0 u k) (hk : ¬ k < (dp u).length) {Q1 : List (Nat × Nat)} {p kp : Nat} (h0 : Q0 = Q1 ++ [(p, kp)]) : PopL n dp M r z Q0 u (z.lw.set p (min (fnI z.lw p) (fnI z.lw u))) := by
  have hql := h.qlen
  have b := h.b
  have h9 := h.t
  unfold TC.J TC.nd at h9
  have hP : z.Q.map Prod.fst = (Q1.map Prod.fst ++ [p]) ++ [u] := by rw [h.q, h0]; simp
  rw [hP] at h9
  have hpO : p ∈ z.O := h9.sub p (by simp)
  have hpn : p < n := (h9.on p hpO).1
  have hpl : p < z.lw.length := by rw [b.l2]; exact hpn
  have hlt : fnI z.sn p < fnI z.sn u := by
    have h8 := h9.pth
    rw [List.pairwise_append] at h8
    exact h8.2.2 p (by simp) u (by simp)
  have hne : ¬ u = p := fun e => by rw [e] at hlt; exact absurd hlt (Int.lt_irrefl _)
  have hup : u ∈ dp p := b.ch Q1 (p, kp) (u, k) [] (by rw [h.q, h0]; simp)
  refine ⟨by rw [List.length_set]; exact b.l2, by rw [fnI_set hpl, upd_ne hne], fun hn => ⟨⟨b.l1, by rw [List.length_set]; exact b.l2, b.l3, b.ck, b.cn, ?_, b.lo, h.root_kept b.rt, ?_, b.nl, ?_, b.hd⟩, .inr ?_⟩, fun he => ?_, ?_⟩
  · have := b.ms
    rw [mz_eq] at this ⊢; simp only; omega
  · intro q hq
    exact b.nq q (by rw [h.q]; exact List.mem_append_left _ hq)
  · exact ch_init (by rw [← h.q]; exact b.ch)
  · show TJ n dp (fnI z.sn) (fnI (z.lw.set p (min (fnI z.lw p) (fnI z.lw u)))) _ _ (Q0.map Prod.fst) _ _ _ _ _
    rw [fnI_set hpl, h0, List.map_append]
    have := h9.lle u h.uO
    exact TJ.leave h9 (h.full hk) (by omega) hup ⟨Int.min_le_left _ _, Int.min_le_right _ _⟩ (by
      by_cases e9 : fnI z.lw p ≤ fnI z.lw u
      · exact .inl (Int.min_eq_left e9)
      · exact .inr (Int.min_eq_right (by omega)))
  · have := h9.lle p hpO
    rw [Int.min_eq_left (by omega)]; exact set_fnI
  · rw [mz_eq, mz_eq]; simp only; omega
def cpSet (cp : List Int) (c : Int) : List Nat → List Int
  | [] => cp
  | x :: xs => (cpSet cp c xs).set x c
theorem cpSet_len (cp : List Int) (c : Int) : ∀ xs, (cpSet cp c xs).length = cp.length
  | [] => rfl
  | x :: xs => by show ((cpSet cp c xs).set x c).length = _; rw [List.length_set, cpSet_len cp c xs]
theorem cpSet_fn {cp : List Int} {c : Int} : ∀ xs : List Nat, (∀ x, x ∈ xs → x < cp.length) → fnI (cpSet cp c xs) = fun x => if x ∈ xs then c else fnI cp x
  | [], _ => by funext x; simp [cpSet]
  | y :: xs, h => by
    have hy : y < (cpSet cp c xs).length := by rw [cpSet_len]; exact h y (by simp)
    show fnI ((cpSet cp c xs).set y c) = _
    rw [fnI_set hy, cpSet_fn xs (fun x hx => h x (List.mem_cons_of_mem _ hx))]
    funext x
    by_cases e : x = y
    · rw [e, upd_self]; simp
    · rw [upd_ne e]; simp [e]
/-- a component is closed -/
theorem TA.clos (h : TA n dp M r z Q0 u k) (hk : ¬ k < (dp u).length) (he : fnI z.lw u = fnI z.sn u) {O1 X : List Nat} (hO : z.O = O1 ++ u :: X) :
    TI n dp M r ⟨z.sn, z.lw, cpSet z.cp (z.cnt : Int) (u :: X), O1, z.od ++ (u :: X).reverse, Q0, z.nx, z.clk, z.cnt + 1⟩ := by
  have hql := h.qlen
  have b := h.b
  have h9 := h.t
  unfold TC.J TC.nd at h9
  have hP : z.Q.map Prod.fst = Q0.map Prod.fst ++ [u] := by rw [h.q]; simp
  rw [hP, hO] at h9
  have hx : ∀ x, x ∈ u :: X → x < n := fun x hx => (h9.on x (List.mem_append_right _ hx)).1
  refine ⟨⟨b.l1, b.l2, by rw [cpSet_len]; exact b.l3, ?_, ?_, ?_, b.lo, h.root_kept b.rt, ?_, b.nl, ?_, b.hd⟩, .inr ?_⟩
  · show z.clk = O1.length + (z.od ++ (u :: X).reverse).length
    rw [b.ck, hO]; simp; omega
  · show z.cnt + 1 ≤ (z.od ++ (u :: X).reverse).length
    have := b.cn
    simp; omega
  · have := b.ms
    rw [mz_eq] at this ⊢; simp only; omega
  · intro q hq
    exact b.nq q (by rw [h.q]; exact List.mem_append_left _ hq)
  · exact ch_init (by rw [← h.q]; exact b.ch)
  · show TJ n dp (fnI z.sn) (fnI z.lw) (fnI (cpSet z.cp (z.cnt : Int) (u :: X))) O1 (Q0.map Prod.fst) (z.od ++ (u :: X).reverse) z.nx none (z.clk : Int) ((z.cnt + 1 : Nat) : Int)
    rw [cpSet_fn _ (fun x h8 => by rw [b.l3]; exact hx x h8), show ((z.cnt + 1 : Nat) : Int) = (z.cnt : Int) + 1 by omega]
    exact TJ.close h9 (h.full hk) he (by omega) b.hd
/-- what is found -/
structure Cmps (n : Nat) (dp : Nat → List Nat) (cp : List Int) (od : List Nat) : Prop where
  len : cp.length = n
  rg : ∀ x, x < n → 0 ≤ fnI cp x ∧ fnI cp x < n
  ed : ∀ x v, x < n → v ∈ dp x → fnI cp v ≤ fnI cp x
  rc : ∀ x y, x < n → y < n → fnI cp x = fnI cp y → Rch (fun u v => v ∈ dp u) x y
  odm : ∀ x, x ∈ od ↔ x < n
  ods : od.Pairwise fun x y => fnI cp x ≤ fnI cp y
  odn : od.Nodup
/-- between two roots -/
structure TR (n : Nat) (dp : Nat → List Nat) (r : Nat) (z : TC) : Prop where
  l1 : z.sn.length = n
  l2 : z.lw.length = n
  l3 : z.cp.length = n
  q : z.Q = []
  o : z.O = []
  ck : z.clk = z.od.length
  cn : z.cnt ≤ z.od.length
  lo : ∀ x, x < r → fnI z.sn x ≠ -1
  nl : ∀ x, z.nx x ≤ (dp x).length
  t : z.J n dp [] none
theorem TR.next (h : TR n dp r z) (hs : ¬ fnI z.sn r = -1) : TR n dp (r + 1) z := ⟨h.l1, h.l2, h.l3, h.q, h.o, h.ck, h.cn, fun x hx => by
  by_cases e : x = r
  · rw [e]; exact hs
  · exact h.lo x (by omega), h.nl, h.t⟩
theorem TR.go (h : TR n dp r z) (hd : ∀ x v, x < n → v ∈ dp x → v < n) (hr : r < n) (hs : fnI z.sn r = -1) : TI n dp (2 * rem dp (fun _ => 0) n + 1) r ⟨z.sn, z.lw, z.cp, z.O, z.od, [(r, 0)], z.nx, z.clk, z.cnt⟩ := by
  have ht := h.t
  unfold TC.J at ht
  refine ⟨⟨h.l1, h.l2, h.l3, by rw [h.o]; simpa using h.ck, h.cn, ?_, h.lo, .inr (by simp [TC.nd]), ?_, h.nl, ?_, hd⟩, .inl ⟨[], r, rfl, hr, hs, ?_⟩⟩
  · rw [mz_eq]; simp only [List.length_singleton]
    have := rem_le (dp := dp) (nx := z.nx) n; omega
  · intro q hq
    rw [List.mem_singleton.1 hq]; exact (ht.us r hr hs).2
  · intro Q1 p q Q2 e
    have := congrArg List.length e
    simp at this
    omega
  · exact ⟨ht.on, ht.cl, ht.un, ht.us, ht.inj, ht.ord, ht.pth, ht.sub, ht.lle, ht.lop, ht.prc, ht.pex, ht.off, ht.par, fun x k v hx hk hv => (by rw [h.o] at hx; cases hx), ht.ced, ht.crc, ht.odm, ht.ods, ht.odn⟩
theorem TI.done (h : TI n dp M r z) (h0 : z.Q = []) : TR n dp (r + 1) z := by
  have b := h.b
  rcases h.t with ⟨Q1, v, h1, _⟩ | h1
  · rw [h0] at h1; simp at h1
  · unfold TC.nd at h1
    rw [h0] at h1
    have hO : z.O = [] := by
      cases hz : z.O with
      | nil => rfl
      | cons a l =>
        obtain ⟨p, hp, _⟩ := h1.pex a (by rw [hz]; simp)
        cases hp
    refine ⟨b.l1, b.l2, b.l3, h0, hO, by rw [b.ck, hO]; simp, b.cn, fun x hx => ?_, b.nl, h1⟩
    by_cases e : x = r
    · rw [e]
      rcases b.rt with h2 | h2
      · exact h2
      · unfold TC.nd at h2; rw [h0] at h2; cases h2
    · exact b.lo x (by omega)
theorem TR.start (n : Nat) (dp : Nat → List Nat) (lw : List Int) (hl : lw.length = n) : TR n dp 0 ⟨List.replicate n (-1), lw, List.replicate n (-1), [], [], [], fun _ => 0, 0, 0⟩ := by
  have hf : ∀ x, fnI (List.replicate n (-1)) x = -1 := fun x => by
    by_cases h : x < n
    · have := fnI_get (l := List.replicate n (-1)) (i := x) (by simpa using h)
      rw [List.getElem?_replicate, if_pos h] at this
      injection this with this; exact this.symm
    · exact fnI_out (by simpa using h)
  refine ⟨by simp, hl, by simp, rfl, rfl, rfl, Nat.le_refl _, fun x hx => absurd hx (Nat.not_lt_zero _), fun x => Nat.zero_le _, ?_⟩
  refine ⟨fun x hx => (by cases hx), fun x hx h => ?_, fun x hx => .inl (hf x), fun x hx _ => ⟨hf x, rfl⟩, fun x y hx => (by cases hx), List.Pairwise.nil, List.Pairwise.nil, fun x hx => (by cases hx), fun x hx => (by cases hx), fun x hx => (by cases hx), fun x y hx => (by cases hx), fun x hx => (by cases hx), fun x hx => (by cases hx), fun x y hx => (by cases hx), fun x k v hx => (by cases hx), fun x v hx h => ?_, fun x y _ _ h => ?_, fun x => ⟨fun h => (by cases h), fun h => ?_⟩, List.Pairwise.nil, List.nodup_nil⟩
  · have := hf x; simp only at h; omega
  · have := hf x; simp only at h; omega
  · have := hf x; simp only at h; omega
  · have := hf x; have h9 := h.2; simp only at h9; omega
theorem TR.fin (h : TR n dp n z) : Cmps n dp z.cp z.od := by
  have ht := h.t
  unfold TC.J at ht
  have hall : ∀ x, x < n → 0 ≤ fnI z.cp x := fun x hx => by
    rcases ht.un x hx with h1 | h1 | h1
    · exact absurd h1 (h.lo x hx)
    · rw [h.o] at h1; cases h1
    · exact h1
  have hod : z.od.length ≤ n := nodup_len n _ ht.odn fun x hx => ((ht.odm x).1 hx).1
  refine ⟨h.l3, fun x hx => ⟨hall x hx, ?_⟩, fun x v hx hv => (ht.ced x v hx (hall x hx) hv).2, fun x y hx hy e => ht.crc x y hx hy (hall x hx) e, fun x => ⟨fun hx => ((ht.odm x).1 hx).1, fun hx => (ht.odm x).2 ⟨hx, hall x hx⟩⟩, ht.ods, ht.odn⟩
  have h1 := (ht.cl x hx (hall x hx)).2
  have h2 := h.cn
  omega
end tarjan2


/-! ## components: rows and blocks -/
def iN (x : Nat) : List Value := [.int .i64 (x : Int)]
theorem iN_len (x : Nat) : (iN x).length = 1 := rfl
theorem iN_one (x : Nat) : (iN x).all (·.oneCell') = true := rfl
theorem fcN {l : List Nat} {c : Nat} {i : Nat} (h : l[i]? = some c) (junk : List Value) : (fl iN l ++ junk)[0 + i * 1]? = some (.int .i64 (c : Int)) := fl_cell1 (f := iN) (g := fun x => .int .i64 (x : Int)) (fun _ => rfl) h junk
def qc2 (p : Nat × Nat) : List Value := [.int .i64 (p.1 : Int), .int .i64 (p.2 : Int)]
theorem qc2_len (p : Nat × Nat) : (qc2 p).length = 2 := rfl
def edc (e : Nat × Bool) : List Value := [.int .i64 (e.1 : Int), .bool e.2]
theorem edc_len (e : Nat × Bool) : (edc e).length = 2 := rfl
structure EV where
  l : List (Nat × Bool)
  p : Option Addr
  c : Nat
  E : List (Nat × Obj)
def evc (d : EV) : List Value := [.slice d.p d.l.length d.c]
theorem evc_len (d : EV) : (evc d).length = 1 := rfl
def EV.ok (d : EV) : Prop := Row (.slice d.p d.l.length d.c) d.l.length (fl edc d.l) 2 120 d.E
def dpV (ds : List EV) (u : Nat) : List Nat := match ds[u]? with | some d => d.l.map Prod.fst | none => []
theorem dpV_at {ds : List EV} {u : Nat} {d : EV} (h : ds[u]? = some d) : dpV ds u = d.l.map Prod.fst := by unfold dpV; rw [h]
theorem dpV_nth {ds : List EV} {u k : Nat} {d : EV} {e : Nat × Bool} (h : ds[u]? = some d) (hk : d.l[k]? = some e) : (dpV ds u)[k]? = some e.1 := by rw [dpV_at h, List.getElem?_map, hk]; rfl
theorem ev_at {ds : List EV} {u : Nat} {d : EV} (h : ds[u]? = some d) : (fl evc ds)[0 + u * 1]? = some (.slice d.p d.l.length d.c) := by
  have := fl_cell1 (f := evc) (g := fun d => .slice d.p d.l.length d.c) (fun _ => rfl) h []
  rw [List.append_nil] at this; exact this
structure DpI (ds : List EV) (db : Nat) (DE : List (Nat × Obj)) : Prop where
  blk : (db, C (fl evc ds) 118) ∈ DE
  ok : ∀ d, d ∈ ds → d.ok ∧ ∀ x, x ∈ d.E → x ∈ DE
  to : ∀ d e, d ∈ ds → e ∈ d.l → e.1 < ds.length
  tot : rem (dpV ds) (fun _ => 0) ds.length ≤ 100000000
  len : ds.length ≤ 1000000
  ll : ∀ d, d ∈ ds → d.l.length ≤ 100000000
theorem DpI.hd {ds : List EV} {db : Nat} {DE : List (Nat × Obj)} (h : DpI ds db DE) : ∀ x v, x < ds.length → v ∈ dpV ds x → v < ds.length := by
  intro x v hx hv
  have e := List.getElem?_eq_getElem hx
  rw [dpV_at e] at hv
  obtain ⟨y, hy, rfl⟩ := List.mem_map.1 hv
  exact h.to _ y (List.mem_of_getElem? e) hy
structure TW where
  c : TC
  oa : Option Addr
  oc : Nat
  oE : List (Nat × Obj)
  qa : Option Addr
  qc : Nat
  qE : List (Nat × Obj)
  da : Option Addr
  dc : Nat
  dE : List (Nat × Obj)
structure TWr (z : TW) : Prop where
  o : Row (.slice z.oa z.c.O.length z.oc) z.c.O.length (fl iN z.c.O) 1 3 z.oE
  q : Row (.slice z.qa z.c.Q.length z.qc) z.c.Q.length (fl qc2 z.c.Q) 2 178 z.qE
  d : Row (.slice z.da z.c.od.length z.dc) z.c.od.length (fl iN z.c.od) 1 3 z.dE
structure TX where
  i : Nat
  t : TW
/-- a component being closed: A still on the stack, B closed -/
structure CLo where
  A : List Nat
  B : List Nat
  od : List Nat
  cp : List Int
  cl : Int
  da : Option Addr
  dc : Nat
  dE : List (Nat × Obj)
theorem row_snoc {α : Type} {f : α → List Value} {l : List α} {x : α} {p : Option Addr} {c s : Nat} {e : TypeId} {E : List (Nat × Obj)} (h : Row (.slice p (l.length + 1) c) (l.length + 1) (fl f l ++ f x) s e E) : Row (.slice p (l ++ [x]).length c) (l ++ [x]).length (fl f (l ++ [x])) s e E := by
  rw [List.length_append, fl_app, fl_sing]; exact h
theorem row_init {α : Type} {f : α → List Value} {s : Nat} (hs : ∀ a, (f a).length = s) {l0 l1 : List α} {b c m : Nat} {j : List Value} {e : TypeId} (hj : (fl f (l0 ++ l1) ++ j).length = c * s) (hc : m ≤ c) (hm : m = (l0 ++ l1).length) :
    Row (.slice (some ⟨b, 0, none⟩) l0.length c) l0.length (fl f l0) s e [(b, C (fl f (l0 ++ l1) ++ j) e)] :=
  .inr ⟨b, c, fl f l1 ++ j, rfl, fl_len hs l0, by rw [← List.append_assoc, ← fl_app]; exact hj, by rw [hm, List.length_append] at hc; omega, by rw [← List.append_assoc, ← fl_app]⟩
theorem row_put {α : Type} {f : α → List Value} {s : Nat} (hs : ∀ a, (f a).length = s) {l l' : List α} {b c : Nat} {j : List Value} {e : TypeId} (hl : l'.length = l.length) (hj : (fl f l ++ j).length = c * s) (hc : l.length ≤ c) :
    Row (.slice (some ⟨b, 0, none⟩) l'.length c) l'.length (fl f l') s e [(b, C (fl f l' ++ j) e)] :=
  .inr ⟨b, c, j, rfl, fl_len hs l', by rw [List.length_append, fl_len hs] at hj ⊢; rw [hl]; exact hj, by omega, rfl⟩
theorem row_mk0 {b n s : Nat} {j : List Value} {e : TypeId} (h : j.length = n * s) : Row (.slice (some ⟨b, 0, none⟩) 0 n) 0 [] s e [(b, C j e)] :=
  .inr ⟨b, n, j, rfl, by simp, by simpa using h, Nat.zero_le _, by simp⟩
theorem qc2_put {l : List (Nat × Nat)} {i u k : Nat} {k' : Nat} {j : List Value} (h : l[i]? = some (u, k)) : setL (fl qc2 l ++ j) (0 + i * 2 + 1) [.int .i64 (k' : Int)] = fl qc2 (l.set i (u, k')) ++ j := by
  have hi : i < l.length := (List.getElem?_eq_some_iff.1 h).1
  obtain ⟨h1, h2⟩ := List.getElem?_eq_some_iff.1 h
  have hs : l = l.take i ++ (u, k) :: l.drop (i + 1) := by
    rw [← h2, List.getElem_cons_drop, List.take_append_drop]
  have hl : (l.take i).length = i := by simp; omega
  rw [show l.set i (u, k') = l.take i ++ (u, k') :: l.drop (i + 1) by
    conv => lhs; rw [hs]
    rw [List.set_append_right _ _ (by rw [hl]; exact Nat.le_refl _), hl, Nat.sub_self]; rfl]
  conv => lhs; rw [hs]
  simp only [fl_app, fl_cons]
  rw [show fl qc2 (List.take i l) ++ (qc2 (u, k) ++ fl qc2 (List.drop (i + 1) l)) ++ j = (fl qc2 (List.take i l) ++ [.int .i64 (u : Int)]) ++ [.int .i64 (k : Int)] ++ (fl qc2 (List.drop (i + 1) l) ++ j) by simp [qc2]]
  rw [show 0 + i * 2 + 1 = (fl qc2 (List.take i l) ++ [Value.int .i64 (u : Int)]).length by rw [List.length_append, fl_len qc2_len, hl]; simp]
  rw [setL_mid (fl qc2 (List.take i l) ++ [Value.int .i64 (u : Int)]) [.int .i64 (k : Int)] (fl qc2 (List.drop (i + 1) l) ++ j) [.int .i64 (k' : Int)] rfl]
  simp [qc2]
theorem qc2_lt {l : List (Nat × Nat)} {i : Nat} {j : List Value} (h : i < l.length) : 0 + i * 2 + 1 < (fl qc2 l ++ j).length := by rw [List.length_append, fl_len qc2_len]; omega
def nmI (vs i : Nat) : List Int := List.replicate i (-1) ++ List.replicate (vs - i) 0
theorem nm_zero (vs : Nat) : nmI vs 0 = List.replicate vs 0 := by simp [nmI]
theorem nm_full (vs : Nat) : nmI vs vs = List.replicate vs (-1) := by simp [nmI]
theorem nm_len {vs i : Nat} (h : i ≤ vs) : (nmI vs i).length = vs := by simp [nmI]; omega
theorem nm_set {vs i : Nat} (h : i < vs) : setL (fl iI (nmI vs i)) (0 + i * 1) [.int .i64 (-1)] = fl iI (nmI vs (i + 1)) := by
  rw [fs0 (by rw [nm_len (by omega)]; omega)]
  congr 1
  unfold nmI
  obtain ⟨d, hd⟩ : ∃ d, vs - i = d + 1 := ⟨vs - i - 1, by omega⟩
  rw [show vs - (i + 1) = d by omega, hd, List.replicate_succ, List.replicate_succ', List.append_assoc]
  rw [List.set_append_right _ _ (by simp)]
  simp
theorem snoc_of {α : Type} {l : List α} (h : 0 < l.length) : ∃ l0 x, l = l0 ++ [x] := by
  rcases List.eq_nil_or_concat l with e | ⟨l0, x, e⟩
  · rw [e] at h; exact absurd h (Nat.lt_irrefl _)
  · exact ⟨l0, x, by rw [e, List.concat_eq_append]⟩
theorem at_mid {α : Type} {l l0 l1 : List α} {x : α} (h : l = l0 ++ x :: l1) : l[l0.length]? = some x := by
  rw [h, List.getElem?_append_right (Nat.le_refl _), Nat.sub_self]; rfl
structure CLI (v : TC) (u : Nat) (X : List Nat) (s : CLo) : Prop where
  ab : u :: X = s.A ++ s.B
  od : s.od = v.od ++ s.B.reverse
  cp : s.cp = cpSet v.cp (v.cnt : Int) s.B
  row : Row (.slice s.da s.od.length s.dc) s.od.length (fl iN s.od) 1 3 s.dE
  c0 : s.A = [] → s.cl = (u : Int)
  c1 : s.A ≠ [] → ¬ s.cl = (u : Int)
theorem CLI.next {v : TC} {u : Nat} {X : List Nat} {s : CLo} (h : CLI v u X s) {A' : List Nat} {x : Nat} (hA : s.A = A' ++ [x]) (hu : u ∉ X) {p : Option Addr} {c : Nat} {E : List (Nat × Obj)} (hR : Row (.slice p (s.od.length + 1) c) (s.od.length + 1) (fl iN s.od ++ iN x) 1 3 E) :
    CLI v u X ⟨A', x :: s.B, s.od ++ [x], s.cp.set x (v.cnt : Int), (x : Int), p, c, E⟩ := by
  have hab : u :: X = A' ++ x :: s.B := by rw [h.ab, hA]; simp
  refine ⟨hab, by simp [h.od], by rw [h.cp]; rfl, row_snoc hR, fun e => ?_, fun e => ?_⟩
  · simp only at e
    subst e
    simp only [List.nil_append] at hab
    injection hab with h1 h2
    show (x : Int) = (u : Int)
    rw [h1]
  · simp only at e
    cases A' with
    | nil => exact absurd rfl e
    | cons a A' =>
      simp only [List.cons_append] at hab
      injection hab with h1 h2
      intro h9
      have : x = u := by simp only at h9; omega
      exact hu (by rw [h2, this]; simp)
theorem TA.split {n M r : Nat} {dp : Nat → List Nat} {z : TC} {Q0 : List (Nat × Nat)} {u k : Nat} (h : TA n dp M r z Q0 u k) : ∃ O1 X, z.O = O1 ++ u :: X ∧ u ∉ X := by
  obtain ⟨O1, X, e⟩ := List.append_of_mem h.uO
  refine ⟨O1, X, e, fun hm => ?_⟩
  have h9 := h.t.ord
  rw [e, List.pairwise_append, List.pairwise_cons] at h9
  exact absurd (h9.2.1.1 u hm) (Int.lt_irrefl _)
theorem min_ite (a b : Int) : (if b < a then b else a) = min a b := by
  by_cases h : a ≤ b
  · rw [Int.min_eq_left h, if_neg (by omega)]
  · rw [Int.min_eq_right (by omega), if_pos (by omega)]


/-! ## stratification, plain -/
def ix (ps : List Pd) (n : ByteArray) : Nat := (pos ps n).getD 0
theorem ix_get (ps : List Pd) (n : ByteArray) : (mget (ixf 0 ps) n).getD (.int .i64 0) = .int .i64 (ix ps n : Int) := by
  rw [mget_ixf]; unfold ix
  cases pos ps n with
  | none => rfl
  | some i => simp
theorem ix_lt {ps : List Pd} {n : ByteArray} (h : (pos ps n).isSome = true) : ix ps n < ps.length := by
  unfold ix
  cases hq : pos ps n with
  | none => rw [hq] at h; cases h
  | some i =>
    obtain ⟨q, h1, _⟩ := pos_lt hq
    exact (List.getElem?_eq_some_iff.1 h1).1
abbrev Edg := Nat × (Nat × Bool)
def edL (ps : List Pd) (h : ByteArray) (l : Lt) : List Edg := if l.k = 1 then [] else [(ix ps h, (ix ps l.p, decide (l.k = 2)))]
def edB (ps : List Pd) (h : ByteArray) (ls : List Lt) : List Edg := ls.flatMap (edL ps h)
def edR (ps : List Pd) (r : Ru) : List Edg := edB ps r.p r.b
def edP (ps : List Pd) (rs : List Ru) : List Edg := rs.flatMap (edR ps)
def grp (es : List Edg) (h : Nat) : List (Nat × Bool) := (es.filter fun e => e.1 == h).map Prod.snd
theorem grp_app (es fs : List Edg) (h : Nat) : grp (es ++ fs) h = grp es h ++ grp fs h := by unfold grp; rw [List.filter_append, List.map_append]
theorem grp_one (h h' : Nat) (e : Nat × Bool) : grp [(h, e)] h' = if h = h' then [e] else [] := by
  unfold grp
  by_cases e9 : h = h' <;> simp [e9]
theorem mem_grp {es : List Edg} {h : Nat} {e : Nat × Bool} : e ∈ grp es h ↔ (h, e) ∈ es := by
  unfold grp
  rw [List.mem_map]
  constructor
  · rintro ⟨⟨a, b⟩, h1, h2⟩
    rw [List.mem_filter] at h1
    simp only [beq_iff_eq] at h1 h2
    rw [← h2, ← h1.2]; exact h1.1
  · intro h1
    exact ⟨(h, e), List.mem_filter.2 ⟨h1, by simp⟩, rfl⟩
theorem grp_len (es : List Edg) (h : Nat) : (grp es h).length ≤ es.length := by unfold grp; rw [List.length_map]; exact List.length_filter_le _ _
def sumG (es : List Edg) : Nat → Nat
  | 0 => 0
  | n + 1 => sumG es n + (grp es n).length
theorem sumG_cons (e : Edg) (es : List Edg) : ∀ n, sumG (e :: es) n ≤ (if e.1 < n then 1 else 0) + sumG es n
  | 0 => by simp [sumG]
  | n + 1 => by
    have h1 := sumG_cons e es n
    have h2 : (grp (e :: es) n).length = (if e.1 = n then 1 else 0) + (grp es n).length := by
      have := grp_app [e] es n
      rw [List.singleton_append] at this
      rw [this, show [e] = [(e.1, e.2)] from rfl, grp_one, List.length_append]
      by_cases e9 : e.1 = n <;> simp [e9]
    show sumG (e :: es) n + _ ≤ _ + (sumG es n + _)
    rw [h2]
    split at h1 <;> split <;> split <;> omega
theorem sumG_le (es : List Edg) (n : Nat) : sumG es n ≤ es.length := by
  induction es with
  | nil =>
    have : ∀ n, sumG [] n = 0 := fun n => by
      induction n with
      | zero => rfl
      | succ n ih => show sumG [] n + 0 = 0; rw [ih]
    rw [this]; exact Nat.le_refl _
  | cons e es ih =>
    have := sumG_cons e es n
    rw [List.length_cons]
    split at this <;> omega
def DsOk (ds : List EV) (es : List Edg) : Prop := ∀ h d, ds[h]? = some d → d.l = grp es h
theorem rem_sum {ds : List EV} {es : List Edg} (h : DsOk ds es) : ∀ n, n ≤ ds.length → rem (dpV ds) (fun _ => 0) n = sumG es n
  | 0, _ => rfl
  | n + 1, hn => by
    show rem (dpV ds) (fun _ => 0) n + ((dpV ds n).length - 0) = sumG es n + _
    have e := List.getElem?_eq_getElem (l := ds) (i := n) (by omega)
    rw [rem_sum h n (by omega), dpV_at e, List.length_map, h n _ e, Nat.sub_zero]
theorem ds_step {ds : List EV} {es : List Edg} {h : Nat} {d : EV} {e : Nat × Bool} {p : Option Addr} {c : Nat} {E : List (Nat × Obj)} (hd : DsOk ds es) (hh : ds[h]? = some d) : DsOk (ds.set h ⟨d.l ++ [e], p, c, E⟩) (es ++ [(h, e)]) := by
  intro h' d' hd'
  rw [grp_app, grp_one]
  by_cases e9 : h = h'
  · subst e9
    rw [List.getElem?_set_self (List.getElem?_eq_some_iff.1 hh).1] at hd'
    injection hd' with hd'
    rw [← hd', if_pos rfl, ← hd h d hh]
  · rw [List.getElem?_set_ne e9] at hd'
    rw [if_neg e9, List.append_nil]; exact hd h' d' hd'
theorem ds_nil (n : Nat) : DsOk (List.replicate n ⟨[], none, 0, []⟩) [] := by
  intro h d hd
  rw [List.getElem?_replicate] at hd
  split at hd
  · injection hd with hd; rw [← hd]; rfl
  · cases hd
theorem edB_snoc {ps : List Pd} {h : ByteArray} {ls : List Lt} {i : Nat} {l : Lt} (hl : ls[i]? = some l) : edB ps h (ls.take (i + 1)) = edB ps h (ls.take i) ++ edL ps h l := by
  rw [List.take_add_one, hl]
  show edB ps h (ls.take i ++ [l]) = _
  unfold edB; rw [List.flatMap_append]; simp
theorem edP_snoc {ps : List Pd} {rs : List Ru} {i : Nat} {r : Ru} (hr : rs[i]? = some r) : edP ps (rs.take (i + 1)) = edP ps (rs.take i) ++ edR ps r := by
  rw [List.take_add_one, hr]
  show edP ps (rs.take i ++ [r]) = _
  unfold edP; rw [List.flatMap_append]; simp
theorem edB_len (ps : List Pd) (h : ByteArray) : ∀ ls : List Lt, (edB ps h ls).length ≤ ls.length
  | [] => Nat.le_refl _
  | l :: ls => by
    have := edB_len ps h ls
    show (edL ps h l ++ edB ps h ls).length ≤ _
    rw [List.length_append, List.length_cons]
    have : (edL ps h l).length ≤ 1 := by unfold edL; split <;> simp
    omega
theorem edP_len (ps : List Pd) : ∀ rs : List Ru, (∀ r, r ∈ rs → r.b.length ≤ 64) → (edP ps rs).length ≤ 64 * rs.length
  | [], _ => Nat.le_refl _
  | r :: rs, h => by
    have h1 := edP_len ps rs fun q hq => h q (List.mem_cons_of_mem _ hq)
    have h2 := edB_len ps r.p r.b
    have h3 := h r (by simp)
    show (edR ps r ++ edP ps rs).length ≤ _
    rw [List.length_append, List.length_cons]
    unfold edR; omega
theorem mem_edP {ps : List Pd} {rs : List Ru} {e : Edg} : e ∈ edP ps rs ↔ ∃ r l, r ∈ rs ∧ l ∈ r.b ∧ ¬ l.k = 1 ∧ e = (ix ps r.p, (ix ps l.p, decide (l.k = 2))) := by
  unfold edP edR edB edL
  constructor
  · intro h
    obtain ⟨r, hr, h⟩ := List.mem_flatMap.1 h
    obtain ⟨l, hl, h⟩ := List.mem_flatMap.1 h
    split at h
    · cases h
    · exact ⟨r, l, hr, hl, by assumption, List.mem_singleton.1 h⟩
  · rintro ⟨r, l, hr, hl, hk, rfl⟩
    refine List.mem_flatMap.2 ⟨r, hr, List.mem_flatMap.2 ⟨l, hl, ?_⟩⟩
    rw [if_neg hk]; exact List.mem_singleton.2 rfl
/-- the predicates of the rules stand in the table; bodies are short -/
structure InT (ps : List Pd) (rs : List Ru) : Prop where
  h : ∀ r, r ∈ rs → (pos ps r.p).isSome = true
  l : ∀ r l, r ∈ rs → l ∈ r.b → ¬ l.k = 1 → (pos ps l.p).isSome = true
  b : ∀ r, r ∈ rs → r.b.length ≤ 64
theorem InT.eh {ps : List Pd} {rs : List Ru} (h : InT ps rs) {e : Edg} (he : e ∈ edP ps rs) : e.1 < ps.length ∧ e.2.1 < ps.length := by
  obtain ⟨r, l, hr, hl, hk, rfl⟩ := mem_edP.1 he
  exact ⟨ix_lt (h.h r hr), ix_lt (h.l r l hr hl hk)⟩
/-! the first negated literal that is bad -/
def negB (bad : ByteArray → Bool) : Nat → List Lt → Option Nat
  | _, [] => none
  | j, l :: ls => if l.k = 2 ∧ bad l.p = true then some j else negB bad (j + 1) ls
def negP (bad : ByteArray → ByteArray → Bool) : Nat → List Ru → Option (Nat × Nat)
  | _, [] => none
  | i, r :: rs => match negB (bad r.p) 0 r.b with
    | some j => some (i, j)
    | none => negP bad (i + 1) rs
theorem negB_step {bad : ByteArray → Bool} {ls : List Lt} {j : Nat} {l : Lt} (h : ls[j]? = some l) : negB bad j (ls.drop j) = if l.k = 2 ∧ bad l.p = true then some j else negB bad (j + 1) (ls.drop (j + 1)) := by
  obtain ⟨hi, rfl⟩ := List.getElem?_eq_some_iff.1 h
  rw [List.drop_eq_getElem_cons hi]; rfl
theorem negB_end {bad : ByteArray → Bool} {ls : List Lt} {j : Nat} (h : ls.length ≤ j) : negB bad j (ls.drop j) = none := by rw [List.drop_of_length_le h]; rfl
theorem negP_step {bad : ByteArray → ByteArray → Bool} {rs : List Ru} {i : Nat} {r : Ru} (h : rs[i]? = some r) : negP bad i (rs.drop i) = match negB (bad r.p) 0 r.b with
    | some j => some (i, j)
    | none => negP bad (i + 1) (rs.drop (i + 1)) := by
  obtain ⟨hi, rfl⟩ := List.getElem?_eq_some_iff.1 h
  rw [List.drop_eq_getElem_cons hi]; rfl
theorem negP_hit {bad : ByteArray → ByteArray → Bool} {rs : List Ru} {i j : Nat} {r : Ru} (h : rs[i]? = some r) (hb : negB (bad r.p) 0 r.b = some j) : negP bad i (rs.drop i) = some (i, j) := by rw [negP_step h, hb]
theorem negP_go {bad : ByteArray → ByteArray → Bool} {rs : List Ru} {i : Nat} {r : Ru} (h : rs[i]? = some r) (hb : negB (bad r.p) 0 r.b = none) : negP bad i (rs.drop i) = negP bad (i + 1) (rs.drop (i + 1)) := by rw [negP_step h, hb]
theorem negP_end {bad : ByteArray → ByteArray → Bool} {rs : List Ru} {i : Nat} (h : rs.length ≤ i) : negP bad i (rs.drop i) = none := by rw [List.drop_of_length_le h]; rfl
theorem negB_congr {b b' : ByteArray → Bool} : ∀ (ls : List Lt) (j : Nat), (∀ l, l ∈ ls → l.k = 2 → b l.p = b' l.p) → negB b j ls = negB b' j ls
  | [], _, _ => rfl
  | l :: ls, j, h => by
    unfold negB
    rw [negB_congr ls (j + 1) fun l hl => h l (List.mem_cons_of_mem _ hl)]
    by_cases hk : l.k = 2
    · rw [h l (by simp) hk]
    · rw [if_neg (fun h9 => hk h9.1), if_neg (fun h9 => hk h9.1)]
theorem negP_congr {b b' : ByteArray → ByteArray → Bool} : ∀ (rs : List Ru) (i : Nat), (∀ r l, r ∈ rs → l ∈ r.b → l.k = 2 → b r.p l.p = b' r.p l.p) → negP b i rs = negP b' i rs
  | [], _, _ => rfl
  | r :: rs, i, h => by
    unfold negP
    rw [negP_congr rs (i + 1) fun q l hq => h q l (List.mem_cons_of_mem _ hq), negB_congr r.b 0 fun l hl => h r l (by simp) hl]
theorem negB_none {bad : ByteArray → Bool} : ∀ (ls : List Lt) (j : Nat), negB bad j ls = none → ∀ l, l ∈ ls → l.k = 2 → bad l.p = false
  | [], _, _, l, hl => by cases hl
  | l :: ls, j, h, q, hq => by
    unfold negB at h
    split at h
    · cases h
    · rename_i hn
      rcases List.mem_cons.1 hq with e | e
      · rw [e]; intro hk
        cases hb : bad l.p with
        | false => rfl
        | true => exact absurd ⟨hk, hb⟩ hn
      · exact negB_none ls (j + 1) h q e
theorem negP_none {bad : ByteArray → ByteArray → Bool} : ∀ (rs : List Ru) (i : Nat), negP bad i rs = none → ∀ r l, r ∈ rs → l ∈ r.b → l.k = 2 → bad r.p l.p = false
  | [], _, _, r, _, hr => by cases hr
  | r :: rs, i, h, q, l, hq => by
    unfold negP at h
    split at h
    · cases h
    · rename_i hn
      rcases List.mem_cons.1 hq with e | e
      · rw [e]; exact negB_none r.b 0 hn l
      · exact negP_none rs (i + 1) h q l e
/-! levels -/
def ngv (b : Bool) : Int := if b = true then 1 else 0
def Sol (n : Nat) (g : Nat → List (Nat × Bool)) (S : Nat → Int) : Prop := ∀ x e, x < n → e ∈ g x → S e.1 + ngv e.2 ≤ S x
def cpn (cp : List Int) (x : Nat) : Nat := (fnI cp x).toNat
theorem sol_rch {n : Nat} {g : Nat → List (Nat × Bool)} {S : Nat → Int} {dp : Nat → List Nat} (hS : Sol n g S) (hg : ∀ x v, x < n → v ∈ dp x → v < n ∧ ∃ b, (v, b) ∈ g x) {x y : Nat} (h : Rch (fun u v => v ∈ dp u) x y) (hx : x < n) : y < n ∧ S y ≤ S x := by
  induction h with
  | refl => exact ⟨hx, Int.le_refl _⟩
  | @step v w h1 h2 ih =>
    obtain ⟨h3, b, h4⟩ := hg v w ih.1 h2
    have := hS v _ ih.1 h4
    simp only at this
    have hb : 0 ≤ ngv b := by unfold ngv; split <;> omega
    exact ⟨h3, by omega⟩
structure LvI (n : Nat) (g : Nat → List (Nat × Bool)) (cp lv : List Int) (Pr : Nat → Nat × Bool → Prop) : Prop where
  len : lv.length = n
  nn : ∀ c, c < n → 0 ≤ fnI lv c ∧ fnI lv c ≤ c
  sol : ∀ S, Sol n g S → (∀ x, 0 ≤ S x) → ∀ x, x < n → fnI lv (cpn cp x) ≤ S x
  prc : ∀ x e, Pr x e → ¬ fnI cp e.1 = fnI cp x → fnI lv (cpn cp e.1) + ngv e.2 ≤ fnI lv (cpn cp x)
theorem LvI.mono {n : Nat} {g : Nat → List (Nat × Bool)} {cp lv : List Int} {Pr Pr' : Nat → Nat × Bool → Prop} (h : LvI n g cp lv Pr) (hp : ∀ x e, Pr' x e → Pr x e) : LvI n g cp lv Pr' := ⟨h.len, h.nn, h.sol, fun x e hx => h.prc x e (hp x e hx)⟩
theorem fn_zero (n c : Nat) (h : c < n) : fnI (List.replicate n 0) c = 0 := by
  have := fnI_get (l := List.replicate n 0) (i := c) (by simpa using h)
  rw [List.getElem?_replicate, if_pos h] at this
  injection this with this; exact this.symm
theorem LvI.start {n : Nat} {g : Nat → List (Nat × Bool)} {cp : List Int} {dp : Nat → List Nat} {od : List Nat} (hc : Cmps n dp cp od) : LvI n g cp (List.replicate n 0) (fun _ _ => False) := by
  refine ⟨by simp, fun c hc9 => by rw [fn_zero n c hc9]; omega, fun S hS h0 x hx => ?_, fun x e h => h.elim⟩
  have h1 := hc.rg x hx
  rw [fn_zero n _ (by unfold cpn; omega)]; exact h0 x
theorem LvI.skip {n : Nat} {g : Nat → List (Nat × Bool)} {cp lv : List Int} {Pr : Nat → Nat × Bool → Prop} (h : LvI n g cp lv Pr) {u : Nat} {e : Nat × Bool} (he : fnI cp e.1 = fnI cp u) : LvI n g cp lv (fun x e' => Pr x e' ∨ (x = u ∧ e' = e)) :=
  ⟨h.len, h.nn, h.sol, fun x e' hx hne => by
    rcases hx with hx | ⟨rfl, rfl⟩
    · exact h.prc x e' hx hne
    · exact absurd he hne⟩
theorem LvI.step {n : Nat} {g : Nat → List (Nat × Bool)} {cp lv : List Int} {Pr : Nat → Nat × Bool → Prop} {dp : Nat → List Nat} {od : List Nat} (h : LvI n g cp lv Pr) (hc : Cmps n dp cp od) (hg : ∀ x v, x < n → v ∈ dp x → v < n ∧ ∃ b, (v, b) ∈ g x) (hg2 : ∀ x e, x < n → e ∈ g x → e.1 ∈ dp x) {u : Nat} {e : Nat × Bool} (hu : u < n) (he : e ∈ g u) (hne : ¬ fnI cp e.1 = fnI cp u) (hP : ∀ x e', Pr x e' → x < n ∧ e' ∈ g x ∧ fnI cp x ≤ fnI cp u) :
    LvI n g cp (lv.set (cpn cp u) (max (fnI lv (cpn cp u)) (fnI lv (cpn cp e.1) + ngv e.2))) (fun x e' => Pr x e' ∨ (x = u ∧ e' = e)) := by
  have hev := (hg u e.1 hu (hg2 u e hu he)).1
  have h1 := hc.rg u hu
  have h2 := hc.rg e.1 hev
  have hcu : cpn cp u < lv.length := by rw [h.len]; unfold cpn; omega
  have hlt : fnI cp e.1 < fnI cp u := by have := hc.ed u e.1 hu (hg2 u e hu he); omega
  have hb : 0 ≤ ngv e.2 ∧ ngv e.2 ≤ 1 := by unfold ngv; split <;> omega
  have n1 := h.nn (cpn cp u) (by unfold cpn; omega)
  have n2 := h.nn (cpn cp e.1) (by unfold cpn; omega)
  have hne2 : ¬ cpn cp e.1 = cpn cp u := by unfold cpn; omega
  refine ⟨by rw [List.length_set]; exact h.len, fun c hc9 => ?_, fun S hS h0 x hx => ?_, fun x e' hx hn => ?_⟩
  · rw [fnI_set hcu]
    by_cases e9 : c = cpn cp u
    · rw [e9, upd_self]
      have : (cpn cp e.1 : Int) = fnI cp e.1 := by unfold cpn; omega
      have : (cpn cp u : Int) = fnI cp u := by unfold cpn; omega
      omega
    · rw [upd_ne e9]; exact h.nn c hc9
  · rw [fnI_set hcu]
    by_cases e9 : cpn cp x = cpn cp u
    · rw [e9, upd_self]
      have hxr := hc.rg x hx
      have h4 := h.sol S hS h0 x hx
      rw [e9] at h4
      have h5 := h.sol S hS h0 e.1 hev
      have h6 := hS u e hu he
      have h7 := (sol_rch hS hg (hc.rc x u hx hu (by unfold cpn at e9; omega)) hx).2
      omega
    · rw [upd_ne e9]; exact h.sol S hS h0 x hx
  · rw [fnI_set hcu]
    rcases hx with hx | ⟨rfl, rfl⟩
    · obtain ⟨hx1, hx2, hx3⟩ := hP x e' hx
      have h4 := h.prc x e' hx hn
      have hxr := hc.rg x hx1
      have hv := (hg x e'.1 hx1 (hg2 x e' hx1 hx2)).1
      have hvr := hc.rg e'.1 hv
      have := hc.ed x e'.1 hx1 (hg2 x e' hx1 hx2)
      rw [upd_ne (by unfold cpn; omega)]
      by_cases e9 : cpn cp x = cpn cp u
      · rw [e9, upd_self]; rw [e9] at h4; omega
      · rw [upd_ne e9]; exact h4
    · rw [upd_self, upd_ne hne2]; omega
/-- the least solution -/
structure Least (n : Nat) (g : Nat → List (Nat × Bool)) (L : Nat → Int) : Prop where
  nn : ∀ x, x < n → 0 ≤ L x ∧ L x < n
  sol : Sol n g L
  lst : ∀ S, Sol n g S → (∀ x, 0 ≤ S x) → ∀ x, x < n → L x ≤ S x
theorem LvI.least {n : Nat} {g : Nat → List (Nat × Bool)} {cp lv : List Int} {Pr : Nat → Nat × Bool → Prop} {dp : Nat → List Nat} {od : List Nat} (h : LvI n g cp lv Pr) (hc : Cmps n dp cp od) (hg2 : ∀ x e, x < n → e ∈ g x → e.1 ∈ dp x) (hall : ∀ x e, x < n → e ∈ g x → Pr x e) (hno : ∀ x e, x < n → e ∈ g x → e.2 = true → ¬ fnI cp e.1 = fnI cp x) : Least n g (fun x => fnI lv (cpn cp x)) := by
  refine ⟨fun x hx => ?_, fun x e hx he => ?_, h.sol⟩
  · have h1 := hc.rg x hx
    have h2 := h.nn (cpn cp x) (by unfold cpn; omega)
    refine ⟨h2.1, ?_⟩
    have : (cpn cp x : Int) = fnI cp x := by unfold cpn; omega
    omega
  · by_cases e9 : fnI cp e.1 = fnI cp x
    · have hb : ngv e.2 = 0 := by
        unfold ngv; split
        · rename_i hb; exact absurd e9 (hno x e hx he hb)
        · rfl
      show fnI lv (cpn cp e.1) + ngv e.2 ≤ fnI lv (cpn cp x)
      rw [hb]; unfold cpn; rw [e9]; omega
    · exact h.prc x e (hall x e hx he) e9
/-- what the stratifier answers -/
structure Levelled (ps : List Pd) (rs : List Ru) (ps' : List Pd) : Prop where
  len : ps'.length = ps.length
  ex : ∃ L, Least ps.length (grp (edP ps rs)) L ∧ ∀ i p, ps[i]? = some p → ps'[i]? = some (Pd.mk p.n p.a (L i).toNat)
theorem ixf_names : ∀ (ps ps' : List Pd) (o : Nat), ps.map Pd.n = ps'.map Pd.n → ixf o ps = ixf o ps'
  | [], [], _, _ => rfl
  | [], _ :: _, _, h => by cases h
  | _ :: _, [], _, h => by cases h
  | p :: ps, q :: qs, o, h => by
    injection h with h1 h2
    show (p.n, _) :: ixf (o + 1) ps = (q.n, _) :: ixf (o + 1) qs
    rw [h1, ixf_names ps qs (o + 1) h2]
def depE (ps : List Pd) (rs : List Ru) (u v : Nat) : Prop := ∃ b, (u, (v, b)) ∈ edP ps rs
structure BadOk (ps : List Pd) (rs : List Ru) (bad : ByteArray → ByteArray → Bool) : Prop where
  iff : ∀ r l, r ∈ rs → l ∈ r.b → l.k = 2 → (bad r.p l.p = true ↔ Rch (depE ps rs) (ix ps l.p) (ix ps r.p))
theorem ed_low {n : Nat} {dp : Nat → List Nat} {cp : List Int} {od : List Nat} (hc : Cmps n dp cp od) (hd : ∀ x v, x < n → v ∈ dp x → v < n) {x y : Nat} (h : Rch (fun u v => v ∈ dp u) x y) (hx : x < n) : y < n ∧ fnI cp y ≤ fnI cp x := by
  induction h with
  | refl => exact ⟨hx, Int.le_refl _⟩
  | step h1 h2 ih =>
    have := hc.ed _ _ ih.1 h2
    exact ⟨hd _ _ ih.1 h2, by omega⟩
theorem rch_mono {E E' : Nat → Nat → Prop} (h : ∀ u v, E u v → E' u v) {x y : Nat} (hr : Rch E x y) : Rch E' x y := by
  induction hr with
  | refl => exact .refl _
  | step _ h2 ih => exact .step ih (h _ _ h2)
/-- the graph that was built -/
structure Gr (ps : List Pd) (rs : List Ru) (ds : List EV) : Prop where
  len : ds.length = ps.length
  ok : DsOk ds (edP ps rs)
  t : InT ps rs
theorem Gr.dp {ps : List Pd} {rs : List Ru} {ds : List EV} (h : Gr ps rs ds) {x v : Nat} (hx : x < ps.length) : v ∈ dpV ds x ↔ depE ps rs x v := by
  have e := List.getElem?_eq_getElem (l := ds) (i := x) (by rw [h.len]; exact hx)
  rw [dpV_at e, List.mem_map, h.ok x _ e]
  constructor
  · rintro ⟨⟨a, b⟩, h1, rfl⟩
    exact ⟨b, mem_grp.1 h1⟩
  · rintro ⟨b, h1⟩
    exact ⟨(v, b), mem_grp.2 h1, rfl⟩
theorem Gr.hd {ps : List Pd} {rs : List Ru} {ds : List EV} (h : Gr ps rs ds) : ∀ x v, x < ps.length → v ∈ dpV ds x → v < ps.length ∧ ∃ b, (v, b) ∈ grp (edP ps rs) x := by
  intro x v hx hv
  obtain ⟨b, hb⟩ := (h.dp hx).1 hv
  exact ⟨(h.t.eh hb).2, b, mem_grp.2 hb⟩
theorem Gr.g2 {ps : List Pd} {rs : List Ru} {ds : List EV} (h : Gr ps rs ds) : ∀ x e, x < ps.length → e ∈ grp (edP ps rs) x → e.1 ∈ dpV ds x := fun x e hx he => (h.dp hx).2 ⟨e.2, mem_grp.1 he⟩
theorem Gr.rch {ps : List Pd} {rs : List Ru} {ds : List EV} (h : Gr ps rs ds) {x y : Nat} (hx : x < ps.length) (hr : Rch (depE ps rs) x y) : y < ps.length ∧ Rch (fun u v => v ∈ dpV ds u) x y := by
  induction hr with
  | refl => exact ⟨hx, .refl _⟩
  | step h1 h2 ih =>
    obtain ⟨b, hb⟩ := h2
    exact ⟨(h.t.eh hb).2, .step ih.2 ((h.dp ih.1).2 ⟨b, hb⟩)⟩
theorem Gr.rch' {ps : List Pd} {rs : List Ru} {ds : List EV} (h : Gr ps rs ds) {x y : Nat} (hx : x < ps.length) (hr : Rch (fun u v => v ∈ dpV ds u) x y) : y < ps.length ∧ Rch (depE ps rs) x y := by
  induction hr with
  | refl => exact ⟨hx, .refl _⟩
  | step h1 h2 ih =>
    obtain ⟨b, hb⟩ := (h.dp ih.1).1 h2
    exact ⟨(h.t.eh hb).2, .step ih.2 ⟨b, hb⟩⟩
def badC (ps : List Pd) (cp : List Int) (h q : ByteArray) : Bool := decide (fnI cp (ix ps q) = fnI cp (ix ps h))
theorem Gr.bad {ps : List Pd} {rs : List Ru} {ds : List EV} {cp : List Int} {od : List Nat} (h : Gr ps rs ds) (hc : Cmps ps.length (dpV ds) cp od) : BadOk ps rs (badC ps cp) := by
  refine ⟨fun r l hr hl hk => ?_⟩
  have h1 := ix_lt (h.t.h r hr)
  have h2 := ix_lt (h.t.l r l hr hl (by omega))
  unfold badC
  rw [decide_eq_true_eq]
  constructor
  · intro e
    exact (h.rch' h2 (hc.rc _ _ h2 h1 e)).2
  · intro hr9
    have h3 := (ed_low hc (fun x v hx hv => (h.hd x v hx hv).1) (h.rch h2 hr9).2 h2).2
    have h4 := hc.ed _ _ h1 ((h.dp h1).2 ⟨decide (l.k = 2), mem_edP.2 ⟨r, l, hr, hl, by omega, rfl⟩⟩)
    omega
theorem Gr.no {ps : List Pd} {rs : List Ru} {ds : List EV} {cp : List Int} (h : Gr ps rs ds) (hn : negP (badC ps cp) 0 rs = none) : ∀ x e, x < ps.length → e ∈ grp (edP ps rs) x → e.2 = true → ¬ fnI cp e.1 = fnI cp x := by
  intro x e hx he hb hq
  obtain ⟨r, l, hr, hl, hk, h1⟩ := mem_edP.1 (mem_grp.1 he)
  injection h1 with h2 h3
  have h4 : e = (ix ps l.p, decide (l.k = 2)) := h3
  rw [h4] at hb hq
  have := negP_none rs 0 hn r l hr hl (by simpa using hb)
  unfold badC at this
  rw [decide_eq_false_iff_not] at this
  rw [h2] at hq
  exact this hq

end Go.Proofs.Qxb6500915aGreatDoor

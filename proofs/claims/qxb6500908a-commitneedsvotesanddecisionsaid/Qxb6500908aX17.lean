import Derived.Test.Qxb6500908aX16
namespace Go.Proofs.Qxb6500908a
open Go.Eng
set_option linter.unusedVariables false
set_option linter.unusedSimpArgs false

/-! ## the law of what was told, in memory -/
structure ToV where
  tb : Nat
  tm : List (Int × Value)
  iv : List Iv
  ip : Option Addr
  ic : Nat
  mb : List Iv
  mp : Option Addr
  mc : Nat
  op : Bool
  B : List (Nat × Obj)
def toC (wb : Nat) (V : ToV) : List Value := [.pointer (some ⟨wb, 0, none⟩), .map (some V.tb), .slice V.ip V.iv.length V.ic, .slice V.mp V.mb.length V.mc, .bool V.op]
def ToV.F (lb wb : Nat) (V : ToV) : List (Nat × Obj) := (lb, C (toC wb V) 62) :: ((V.tb, MO (kInt .u32) V.tm) :: V.B)
def ToV.pl (V : ToV) : ToX := ⟨fun i => vdN (mget V.tm i), V.iv, V.mb, V.op⟩
structure ToV.ok (V : ToV) : Prop where
  i : ∃ E, ROWI V.ip V.iv V.ic E ∧ InZ E V.B
  m : ∃ E, ROWI V.mp V.mb V.mc E ∧ InZ E V.B
  io : ∀ x, x ∈ V.iv → x.ok
  mo : ∀ x, x ∈ V.mb → x.ok
  tv : ∀ i v, mget V.tm i = some v → ∃ x, v = .int .u8 x ∧ 0 ≤ x ∧ x ≤ 255
  tk : (V.tm.map Prod.fst).Nodup
theorem tlx {V : ToV} (h : V.ok) (id : Int) : (∃ z, mget V.tm id = some (.int .u8 z) ∧ 0 ≤ z ∧ z ≤ 255 ∧ V.pl.tl id = some z) ∨ (mget V.tm id = none ∧ V.pl.tl id = none) := by
  cases hm : mget V.tm id with
  | none => exact .inr ⟨rfl, by show vdN (mget V.tm id) = none; rw [hm]; rfl⟩
  | some v =>
    obtain ⟨z, rfl, h1, h2⟩ := h.tv id v hm
    exact .inl ⟨z, rfl, h1, h2, by show vdN (mget V.tm id) = some z; rw [hm]; rfl⟩
theorem with_ok {set : List Iv} {v : Iv} {add : Bool} (hs : ∀ x, x ∈ set → x.ok) (hv : v.ok) : ∀ x, x ∈ withP set v add → x.ok := fun x hx => by
  rcases (withP_mem x).1 hx with h | h
  · exact hs x h.1
  · rw [h.2]; exact hv
theorem tov_tl {V : ToV} (h : V.ok) (j : Int) {z : Int} (hz : 0 ≤ z ∧ z ≤ 255) : ToV.ok { V with tm := mput V.tm j (.int .u8 z) } := ⟨h.i, h.m, h.io, h.mo, fun i v e => by
    have e2 : mget (mput V.tm j (.int .u8 z)) i = some v := e
    rw [mget_mput] at e2
    split at e2
    · injection e2 with e2; exact ⟨z, e2.symm, hz⟩
    · exact h.tv i v e2, (mput_k9 h.tk).1⟩
theorem tov_tlp (V : ToV) (j z : Int) : ToV.pl { V with tm := mput V.tm j (.int .u8 z) } = { V.pl with tl := rfU V.pl.tl j z } := by
  unfold ToV.pl rfU
  simp only [ToX.mk.injEq, and_true]
  funext i
  rw [mget_mput]
  split <;> rfl
theorem InZ.appL {E B G : List (Nat × Obj)} (h : InZ E B) : InZ E (B ++ G) := fun y hy => List.mem_append_left _ (h y hy)
theorem tov_iv {V : ToV} (h : V.ok) {p : Option Addr} {c : Nat} {l : List Iv} {E : List (Nat × Obj)} (hR : ROWI p l c E) (ho : ∀ x, x ∈ l → x.ok) : ToV.ok { V with iv := l, ip := p, ic := c, B := V.B ++ E } := ⟨⟨E, hR, fun y hy => List.mem_append_right _ hy⟩, h.m.imp fun _ z => ⟨z.1, z.2.appL⟩, ho, h.mo, h.tv, h.tk⟩
theorem tov_mb {V : ToV} (h : V.ok) {p : Option Addr} {c : Nat} {l : List Iv} {E : List (Nat × Obj)} (hR : ROWI p l c E) (ho : ∀ x, x ∈ l → x.ok) (b : Bool) : ToV.ok { V with mb := l, mp := p, mc := c, op := b, B := V.B ++ E } := ⟨h.i.imp fun _ z => ⟨z.1, z.2.appL⟩, ⟨E, hR, fun y hy => List.mem_append_right _ hy⟩, h.io, ho, h.tv, h.tk⟩
section tnx
variable {x : ToX} {i : InP} {c : Int}
theorem tn_a (h : ¬ (i.k = 1 ∨ i.k = 2)) (h2 : ¬ (i.k = 3 ∨ i.k = 4)) : x.nx i c = x := by unfold ToX.nx; rw [if_neg h, if_neg h2]
theorem tn_b (h : i.k = 1 ∨ i.k = 2) (h2 : ¬ (ToX.cd i c = 3 ∨ ToX.cd i c = 4)) : x.nx i c = x := by unfold ToX.nx; rw [if_pos h, if_neg h2]
theorem tn_t (h : i.k = 1 ∨ i.k = 2) (h2 : ToX.cd i c = 3 ∨ ToX.cd i c = 4) : x.nx i c = { x with tl := rfU x.tl i.id (ToX.cd i c) } := by unfold ToX.nx; rw [if_pos h, if_pos h2]
theorem tn_i (h : i.k = 3 ∨ i.k = 4) (h2 : c = 0) : x.nx i c = { x with iv := withP x.iv i.v (decide (i.k = 3)) } := by unfold ToX.nx; rw [if_neg (by omega), if_pos h, if_pos h2]
theorem tn_m (h : i.k = 3 ∨ i.k = 4) (h2 : c = 14) : x.nx i c = { x with mb := withP x.iv i.v (decide (i.k = 3)), op := true } := by unfold ToX.nx; rw [if_neg (by omega), if_pos h, if_neg (by omega), if_pos h2]
theorem tn_c (h : i.k = 3 ∨ i.k = 4) (h2 : ¬ c = 0) (h3 : ¬ c = 14) : x.nx i c = x := by unfold ToX.nx; rw [if_neg (by omega), if_pos h, if_neg h2, if_neg h3]
theorem cd_13 (h : i.k = 1 ∨ i.k = 2) (h2 : c = 13) : ToX.cd i c = 3 := by unfold ToX.cd; rw [if_pos ⟨h, h2⟩]
theorem cd_n (h2 : ¬ c = 13) : ToX.cd i c = c := by unfold ToX.cd; rw [if_neg (fun h => h2 h.2)]
theorem cd_k (h : ¬ (i.k = 1 ∨ i.k = 2)) : ToX.cd i c = c := by unfold ToX.cd; rw [if_neg (fun h2 => h h2.1)]
end tnx

attribute [local irreducible] NtV.k StV.c LdV.c StV.E GtV.c GtV.t orB sh1 WoV.c wst postP
end Go.Proofs.Qxb6500908a

import Derived.Test.Qxb6500911aGreatDoorC9
import Derived.Test.Qxb6500911aGreatDoorMrg
namespace Go.Proofs.Qxb6500911aGreatDoor
open Go.Eng
set_option linter.unusedVariables false
set_option linter.unusedSimpArgs false
theorem shp142 : shapeT Tryz.prog 8 142 = some [.int .i64, .int .i64, .int .u64] := by kernel_rfl
theorem eqf142 : eqOk Tryz.prog 8 142 = true := by kernel_rfl
open Go.Eng (mget mput mfind KeyOk MO mget_mput mput_mput)

/-! ## a shard, counted out of what it has got -/
abbrev EK := Fin 16 × Fin 16 × BitVec 64
def ekc (a : EK) : List Value := [.int .i64 ((a.1.1 : Nat) : Int), .int .i64 ((a.2.1.1 : Nat) : Int), .int .u64 ((a.2.2.toNat : Nat) : Int)]
def k142 (a : EK) : Value := .agg ⟨ekc a⟩
theorem key142 : KeyOk Tryz.prog 142 k142 := by
  refine KeyOk.wide (fun a : EK => ekc a) (fun a : EK => [.int .i64 ((a.1.1 : Nat) : Int), .int .i64 ((a.2.1.1 : Nat) : Int), .int .u64 ((a.2.2.toNat : Nat) : Int)]) eqf142 shp142 (fun a => rfl) (fun a => rfl) (fun a => ?_) (fun a b h => ?_) (fun a => ?_) (fun a => ?_)
  · have h1 := a.1.2; have h2 := a.2.2.isLt; have h3 := a.2.1.2
    refine ⟨?_⟩
    simp [LitsOk, litOk, Fits]
    omega
  · obtain ⟨⟨a1, ha⟩, ⟨a3, ha3⟩, a2⟩ := a
    obtain ⟨⟨b1, hb⟩, ⟨b3, hb3⟩, b2⟩ := b
    simp only [List.cons.injEq, Lit.int.injEq, true_and, and_true] at h
    obtain ⟨h1, h3, h2⟩ := h
    have e1 : a1 = b1 := by omega
    have e3 : a3 = b3 := by omega
    have e2 : a2 = b2 := BitVec.eq_of_toNat_eq (by omega)
    subst e1; subst e2; subst e3; rfl
  · simp [ekc, Value.formed, Tryz.underlying142, Program.cellsOf]
    all_goals kernel_rfl
  · simp [k142, ekc, Instr.sameBits]
def ek (w h : Nat) (e : Int) : EK := (⟨w % 16, Nat.mod_lt _ (by decide)⟩, ⟨h % 16, Nat.mod_lt _ (by decide)⟩, BitVec.ofNat 64 e.toNat)
theorem ek_c {w h : Nat} {e : Int} (hw : w < 16) (hh : h < 16) (he : 0 ≤ e ∧ e < 18446744073709551616) : [Value.int .i64 (w : Int), .int .i64 (h : Int), .int .u64 e] = ekc (ek w h e) := by
  unfold ekc ek
  simp only [BitVec.toNat_ofNat]
  rw [show w % 16 = w by omega, show h % 16 = h by omega, show ((e.toNat % 2 ^ 64 : Nat) : Int) = e by omega]
theorem ek_eq {w h : Nat} {e : Int} (hw : w < 16) (hh : h < 16) (he : 0 ≤ e ∧ e < 18446744073709551616) : Value.agg ⟨[.int .i64 (w : Int), .int .i64 (h : Int), .int .u64 e]⟩ = k142 (ek w h e) := by
  rw [ek_c hw hh he]; rfl
theorem ek_inj {w w' h h' : Nat} {e e' : Int} (hw : w < 16) (hw' : w' < 16) (hh : h < 16) (hh' : h' < 16) (he : 0 ≤ e ∧ e < 18446744073709551616) (he' : 0 ≤ e' ∧ e' < 18446744073709551616) (hk : ek w h e = ek w' h' e') : w = w' ∧ h = h' ∧ e = e' := by
  unfold ek at hk
  simp only [Prod.mk.injEq, Fin.mk.injEq] at hk
  have h2 := congrArg BitVec.toNat hk.2.2
  simp only [BitVec.toNat_ofNat] at h2
  omega
theorem ek_back (a : EK) : ek a.1.1 a.2.1.1 ((a.2.2.toNat : Nat) : Int) = a := by
  obtain ⟨⟨a1, ha⟩, ⟨a3, ha3⟩, a2⟩ := a
  unfold ek
  simp only [Int.toNat_natCast, BitVec.ofNat_toNat, BitVec.setWidth_eq]
  have e1 : a1 % 16 = a1 := by omega
  have e3 : a3 % 16 = a3 := by omega
  simp only [e1, e3]
theorem mem_tasksB {s : BitVec 16} {k : Nat} (hk : k < 16) : k ∈ tasksB s ↔ s.getLsbD k = true := by
  unfold tasksB
  simp [hk]
theorem nd_at {l : List EK} (h : l.Nodup) : ∀ {i j : Nat} {x : EK}, l[i]? = some x → l[j]? = some x → i = j := by
  intro i j x hi hj
  induction l generalizing i j with
  | nil => cases hi
  | cons y l ih =>
    rw [List.nodup_cons] at h
    cases i with
    | zero =>
      cases j with
      | zero => rfl
      | succ j => simp at hi hj; subst hi; exact absurd (List.mem_of_getElem? hj) h.1
    | succ i =>
      cases j with
      | zero => simp at hi hj; subst hj; exact absurd (List.mem_of_getElem? hi) h.1
      | succ j => simp at hi hj; rw [ih h.2 hi hj]
def zv : Value → Int
  | .int .i64 z => z
  | _ => 0
def zV (l : List (EK × Value)) (a : EK) : Int := match mget l a with | some v => zv v | none => 0
structure MapZ (l : List (EK × Value)) : Prop where
  sh : ∀ p, p ∈ l → p.2 = .int .i64 (zv p.2)
  nd : (l.map (·.1)).Nodup
theorem mget_in {l : List (EK × Value)} {a : EK} {v : Value} (h : mget l a = some v) : (a, v) ∈ l := by
  induction l with
  | nil => cases h
  | cons p l ih =>
    unfold mget at h
    split at h
    · rename_i e; cases h; rw [e]; exact .head _
    · exact .tail _ (ih h)
theorem mget_of {l : List (EK × Value)} (hn : (l.map (·.1)).Nodup) {p : EK × Value} (hp : p ∈ l) : mget l p.1 = some p.2 := by
  induction l with
  | nil => cases hp
  | cons q l ih =>
    rw [List.map_cons, List.nodup_cons] at hn
    unfold mget
    cases hp with
    | head => rw [if_pos rfl]
    | tail _ hp =>
      rw [if_neg (fun e => hn.1 (by rw [← e]; exact List.mem_map.2 ⟨p, hp, rfl⟩))]
      exact ih hn.2 hp
theorem mput_keys (l : List (EK × Value)) (a : EK) (v : Value) : (mput l a v).map (·.1) = if a ∈ l.map (·.1) then l.map (·.1) else l.map (·.1) ++ [a] := by
  induction l with
  | nil => simp [mput]
  | cons p l ih =>
    unfold mput
    by_cases h : a = p.1
    · rw [if_pos h, if_pos (by rw [h]; simp)]; simp
    · rw [if_neg h, List.map_cons, ih]
      by_cases h2 : a ∈ l.map (·.1)
      · rw [if_pos h2, if_pos (by rw [List.map_cons]; exact .tail _ h2), List.map_cons]
      · rw [if_neg h2, if_neg (by rw [List.map_cons, List.mem_cons]; exact fun h3 => h3.elim h h2), List.map_cons, List.cons_append]
theorem mput_mem {l : List (EK × Value)} {a : EK} {v : Value} {p : EK × Value} (h : p ∈ mput l a v) : p ∈ l ∨ p.2 = v := by
  induction l with
  | nil => simp [mput] at h; subst h; exact .inr rfl
  | cons q l ih =>
    unfold mput at h
    split at h
    · cases h with
      | head => exact .inr rfl
      | tail _ h => exact .inl (.tail _ h)
    · cases h with
      | head => exact .inl (.head _)
      | tail _ h => exact (ih h).imp (fun h => .tail _ h) id
theorem MapZ.nil : MapZ [] := ⟨fun _ h => (nomatch h), List.nodup_nil⟩
theorem MapZ.put {l : List (EK × Value)} (h : MapZ l) (a : EK) (z : Int) : MapZ (mput l a (.int .i64 z)) := by
  refine ⟨fun p hp => ?_, ?_⟩
  · rcases mput_mem hp with h1 | h1
    · exact h.sh p h1
    · rw [h1]; rfl
  · rw [mput_keys]
    split
    · exact h.nd
    · rename_i hn
      rw [List.nodup_append]
      exact ⟨h.nd, List.nodup_cons.2 ⟨List.not_mem_nil, List.nodup_nil⟩, fun x hx y hy => by rw [List.mem_singleton] at hy; subst hy; exact fun e => hn (e ▸ hx)⟩
theorem MapZ.look {l : List (EK × Value)} (h : MapZ l) (a : EK) : (mget l a).getD (.int .i64 0) = .int .i64 (zV l a) := by
  unfold zV
  cases hm : mget l a with
  | none => rfl
  | some v => exact h.sh _ (mget_in hm)
theorem zV_put (l : List (EK × Value)) (a c : EK) (z : Int) : zV (mput l a (.int .i64 z)) c = if c = a then z else zV l c := by
  unfold zV; rw [mget_mput]
  by_cases h : c = a
  · rw [if_pos h, if_pos h]; rfl
  · rw [if_neg h, if_neg h]
/-- what the net must be when the first i messages are counted -/
def npI (f : Nat → Int) (ls : List Ms) (w : Nat) (e : Int) (h : Nat) : Int := if e < f w then 0 else uL w e h ls
structure NI (f : Nat → Int) (ls : List Ms) (l : List (EK × Value)) : Prop where
  mz : MapZ l
  eq : ∀ w h e, w < 16 → h < 16 → 0 ≤ e ∧ e < 18446744073709551616 → zV l (ek w h e) = npI f ls w e h
theorem NI.nil (f : Nat → Int) : NI f [] [] := ⟨MapZ.nil, fun w h e _ _ _ => by unfold npI; split <;> rfl⟩
/-- within the holders of a message -/
structure NJ (f : Nat → Int) (ls : List Ms) (u : Up) (ts : List Nat) (sg : Int) (l : List (EK × Value)) : Prop where
  mz : MapZ l
  eq : ∀ w h e, w < 16 → h < 16 → 0 ≤ e ∧ e < 18446744073709551616 → zV l (ek w h e) = npI f ls w e h + (if w = u.w ∧ e = u.e ∧ h ∈ ts then sg else 0)
theorem NI.into {f : Nat → Int} {ls : List Ms} {l : List (EK × Value)} (h : NI f ls l) (u : Up) (sg : Int) : NJ f ls u [] sg l := ⟨h.mz, fun w k e h1 h2 h3 => by rw [h.eq w k e h1 h2 h3, if_neg (fun x => by have := x.2.2; cases this)]; omega⟩
theorem NJ.step {f : Nat → Int} {ls : List Ms} {u : Up} {ts : List Nat} {sg : Int} {l : List (EK × Value)} (h : NJ f ls u ts sg l) {k : Nat} (hw : u.w < 16) (hk : k < 16) (he : 0 ≤ u.e ∧ u.e < 18446744073709551616) (hn : k ∉ ts) : zV l (ek u.w k u.e) = npI f ls u.w u.e k ∧ NJ f ls u (ts ++ [k]) sg (mput l (ek u.w k u.e) (.int .i64 (zV l (ek u.w k u.e) + sg))) := by
  have h0 : zV l (ek u.w k u.e) = npI f ls u.w u.e k := by rw [h.eq u.w k u.e hw hk he, if_neg (fun x => hn x.2.2)]; omega
  refine ⟨h0, h.mz.put _ _, fun w' k' e' h1 h2 h3 => ?_⟩
  rw [zV_put]
  by_cases c : ek w' k' e' = ek u.w k u.e
  · obtain ⟨rfl, rfl, rfl⟩ := ek_inj h1 hw h2 hk h3 he c
    rw [if_pos c, h0, if_pos ⟨rfl, rfl, List.mem_append_right _ (List.mem_singleton.2 rfl)⟩]
  · rw [if_neg c, h.eq w' k' e' h1 h2 h3]
    by_cases c2 : w' = u.w ∧ e' = u.e ∧ k' ∈ ts
    · rw [if_pos c2, if_pos ⟨c2.1, c2.2.1, List.mem_append_left _ c2.2.2⟩]
    · rw [if_neg c2, if_neg]
      rintro ⟨x1, x2, x3⟩
      rcases List.mem_append.1 x3 with x3 | x3
      · exact c2 ⟨x1, x2, x3⟩
      · rw [List.mem_singleton] at x3; subst x1; subst x2; subst x3; exact c rfl
theorem NJ.out {f : Nat → Int} {ls : List Ms} {u : Up} {sg : Int} {l : List (EK × Value)} {Q : Int} {fr : Nat} (h : NJ f ls u (tasksB u.s) sg l) (hu : UpOk Q u) (hf : f u.w ≤ u.e) (hs : (u.k = 1 ∧ sg = 1) ∨ (u.k = 2 ∧ sg = -1)) : NI f (ls ++ [upMs fr u]) l := by
  refine ⟨h.mz, fun w k e h1 h2 h3 => ?_⟩
  rw [h.eq w k e h1 h2 h3]
  unfold npI
  rw [uL_append, uL_cons, cM_up hu]
  have hu0 : uL w e k [] = 0 := rfl
  rw [hu0]
  have hc : cU u w e k = if w = u.w ∧ e = u.e ∧ k ∈ tasksB u.s then sg else 0 := by
    unfold cU
    by_cases c : w = u.w ∧ e = u.e ∧ k ∈ tasksB u.s
    · rw [if_pos c, if_pos ⟨c.1.symm, c.2.1.symm, (mem_tasksB h2).1 c.2.2⟩]
      rcases hs with ⟨a1, a2⟩ | ⟨a1, a2⟩ <;> rw [a1, a2] <;> simp
    · rw [if_neg c, if_neg (fun x => c ⟨x.1.symm, x.2.1.symm, (mem_tasksB h2).2 x.2.2⟩)]
  rw [hc]
  by_cases c5 : e < f w
  · rw [if_pos c5, if_pos c5, if_neg (fun x => by have := x.1; have := x.2.1; subst this; subst w; omega)]; rfl
  · rw [if_neg c5, if_neg c5]; omega
theorem NI.skip {f : Nat → Int} {ls : List Ms} {u : Up} {l : List (EK × Value)} {Q : Int} {fr : Nat} (h : NI f ls l) (hu : UpOk Q u) (hs : u.k = 3 ∨ u.e < f u.w) : NI f (ls ++ [upMs fr u]) l := by
  refine ⟨h.mz, fun w k e h1 h2 h3 => ?_⟩
  rw [h.eq w k e h1 h2 h3]
  unfold npI
  rw [uL_append, uL_cons, cM_up hu]
  have hu0 : uL w e k [] = 0 := rfl
  rw [hu0]
  by_cases c5 : e < f w
  · rw [if_pos c5, if_pos c5]
  · rw [if_neg c5, if_neg c5]
    have hc : cU u w e k = 0 := by
      unfold cU
      rcases hs with h3 | h3
      · rw [h3]; simp
      · rw [if_neg (fun x => c5 (by rw [← x.1, ← x.2.1]; exact h3))]
    rw [hc]; omega
theorem uL_bd {Q : Int} {c : Nat} (w : Nat) (e : Int) (h : Nat) : ∀ {ls : List Ms}, MsOk Q c ls → -(ls.length : Int) ≤ uL w e h ls ∧ uL w e h ls ≤ ls.length
  | [], _ => ⟨Int.le_refl _, Int.le_refl _⟩
  | m :: ls, hm => by
    have ih := uL_bd w e h (ls := ls) (fun x hx => hm x (.tail _ hx))
    obtain ⟨fr, u, _, hu, _, rfl⟩ := hm m (.head _)
    rw [uL_cons, cM_up hu, List.length_cons]
    have : -1 ≤ cU u w e h ∧ cU u w e h ≤ 1 := by unfold cU; split <;> (try split) <;> (try split) <;> omega
    omega
theorem npI_bd {Q : Int} {c : Nat} {f : Nat → Int} {ls : List Ms} (hm : MsOk Q c ls) (w : Nat) (e : Int) (h : Nat) : -(ls.length : Int) ≤ npI f ls w e h ∧ npI f ls w e h ≤ ls.length := by
  have := uL_bd w e h hm
  unfold npI; split <;> omega
/-- the entries met so far -/
def egOf (p : EK × Value) : Eg := ⟨p.1.1.1, p.1.2.1.1, ((p.1.2.2.toNat : Nat) : Int), zv p.2⟩
def kdis (x y : Eg) : Prop := ¬ (x.w = y.w ∧ x.e = y.e ∧ x.h = y.h)
structure SnE (l : List (EK × Value)) (seen : List Nat) (es : List Eg) : Prop where
  nd : seen.Nodup
  lt : ∀ j, j ∈ seen → j < l.length
  mem : ∀ y, y ∈ es ↔ ∃ j p, j ∈ seen ∧ l[j]? = some p ∧ y = egOf p ∧ y.n ≠ 0
  dis : es.Pairwise kdis
  len : es.length ≤ seen.length
theorem SnE.start (l : List (EK × Value)) : SnE l [] [] := ⟨List.nodup_nil, fun j h => (nomatch h), fun y => ⟨fun h => (nomatch h), fun ⟨_, _, h, _⟩ => (nomatch h)⟩, List.Pairwise.nil, Nat.le_refl _⟩
theorem nd_snoc {seen : List Nat} {j : Nat} (h : seen.Nodup) (hn : j ∉ seen) : (seen ++ [j]).Nodup := by
  rw [List.nodup_append]
  exact ⟨h, List.nodup_cons.2 ⟨List.not_mem_nil, List.nodup_nil⟩, fun x hx y hy => by rw [List.mem_singleton] at hy; subst hy; exact fun e => hn (e ▸ hx)⟩
theorem SnE.slen {l : List (EK × Value)} {seen : List Nat} {es : List Eg} (h : SnE l seen es) : seen.length ≤ l.length := nodup_len _ _ h.nd h.lt
theorem key_ne {l : List (EK × Value)} (hz : MapZ l) {i j : Nat} {p q : EK × Value} (hp : l[i]? = some p) (hq : l[j]? = some q) (hn : i ≠ j) : kdis (egOf p) (egOf q) := by
  rintro ⟨h1, h2, h3⟩
  have hk : p.1 = q.1 := by
    rw [← ek_back p.1, ← ek_back q.1]
    simp only [egOf] at h1 h2 h3
    rw [h1, h2, h3]
  exact hn (nd_at hz.nd (x := p.1) (by rw [List.getElem?_map, hp]; rfl) (by rw [List.getElem?_map, hq, hk]; rfl))
theorem SnE.skip {l : List (EK × Value)} {seen : List Nat} {es : List Eg} (h : SnE l seen es) {j : Nat} {p : EK × Value} (hj : l[j]? = some p) (hn : j ∉ seen) (hz : zv p.2 = 0) : SnE l (seen ++ [j]) es := by
  refine ⟨nd_snoc h.nd hn, fun i hi => ?_, fun y => ?_, h.dis, by rw [List.length_append]; have := h.len; omega⟩
  · rcases List.mem_append.1 hi with hi | hi
    · exact h.lt i hi
    · rw [List.mem_singleton] at hi; subst hi; exact (List.getElem?_eq_some_iff.1 hj).1
  · rw [h.mem y]
    constructor
    · rintro ⟨i, q, h1, h2⟩; exact ⟨i, q, List.mem_append_left _ h1, h2⟩
    · rintro ⟨i, q, h1, h2, h3, h4⟩
      rcases List.mem_append.1 h1 with h1 | h1
      · exact ⟨i, q, h1, h2, h3, h4⟩
      · rw [List.mem_singleton] at h1; subst h1
        rw [hj] at h2; cases h2
        subst h3; exact absurd hz h4
theorem SnE.take {l : List (EK × Value)} (hm : MapZ l) {seen : List Nat} {es : List Eg} (h : SnE l seen es) {j : Nat} {p : EK × Value} (hj : l[j]? = some p) (hn : j ∉ seen) (hz : zv p.2 ≠ 0) : SnE l (seen ++ [j]) (es ++ [egOf p]) := by
  refine ⟨nd_snoc h.nd hn, fun i hi => ?_, fun y => ?_, ?_, by rw [List.length_append, List.length_append]; have := h.len; simp only [List.length_singleton]; omega⟩
  · rcases List.mem_append.1 hi with hi | hi
    · exact h.lt i hi
    · rw [List.mem_singleton] at hi; subst hi; exact (List.getElem?_eq_some_iff.1 hj).1
  · rw [List.mem_append, h.mem y, List.mem_singleton]
    constructor
    · rintro (⟨i, q, h1, h2⟩ | rfl)
      · exact ⟨i, q, List.mem_append_left _ h1, h2⟩
      · exact ⟨j, p, List.mem_append_right _ (List.mem_singleton.2 rfl), hj, rfl, hz⟩
    · rintro ⟨i, q, h1, h2, h3, h4⟩
      rcases List.mem_append.1 h1 with h1 | h1
      · exact .inl ⟨i, q, h1, h2, h3, h4⟩
      · rw [List.mem_singleton] at h1; subst h1
        rw [hj] at h2; cases h2
        exact .inr h3
  · rw [List.pairwise_append]
    refine ⟨h.dis, List.pairwise_singleton _ _, fun x hx y hy => ?_⟩
    rw [List.mem_singleton] at hy; subst hy
    obtain ⟨i, q, h1, h2, rfl, _⟩ := (h.mem x).1 hx
    exact key_ne hm h2 hj (fun e => hn (e ▸ h1))
/-- sorted, they are the shard's edges -/
theorem shard_fin {B Q : Int} {g : Gs} {got : Nat → List Ms} {c : Nat} {l : List (EK × Value)} {seen : List Nat} {es es' : List Eg} (hG : GI B Q g) (hQ : Q ≤ 90000000) (hgo : GotOk Q g.flr g.ws got) (hc : c < 4) (hN : NI (floF (got c)) (got c) l) (hS : SnE l seen es) (hall : ∀ j, j < l.length → j ∈ seen) (hp : es'.Perm es) (hs : es'.Pairwise (fun x y => ¬ egLt y x)) : es' = edN (wsK g.ws c) 16 := by
  have hnp : ∀ w h e, w < 16 → npI (floF (got c)) (got c) w e h = if w % 4 = c then nt (g.ws w) e h else 0 := fun w h e hw => by
    unfold npI
    by_cases cw : w % 4 = c
    · subst cw
      rw [if_pos rfl, hgo.nt w hw, hgo.fl w hw]
    · rw [if_neg cw, uL_other cw e h (hgo.ms c hc), ite_self]
  refine ed_unique hG.ok ?_ (fun y => ?_)
  · have hd : es'.Pairwise kdis := hp.symm.pairwise hS.dis (fun h h2 => h ⟨h2.1.symm, h2.2.1.symm, h2.2.2.symm⟩)
    exact (hs.and hd).imp (fun h => by
      obtain ⟨h1, h2⟩ := h
      unfold egLt at h1 ⊢
      unfold kdis at h2
      omega)
  · rw [hp.mem_iff, hS.mem y]
    constructor
    · rintro ⟨j, p, h1, h2, rfl, h3⟩
      have hpm := List.mem_of_getElem? h2
      have hz : zV l p.1 = zv p.2 := by unfold zV; rw [mget_of hN.mz.nd hpm]
      have he := hN.eq p.1.1.1 p.1.2.1.1 ((p.1.2.2.toNat : Nat) : Int) p.1.1.2 p.1.2.1.2 ⟨by omega, by have := p.1.2.2.isLt; omega⟩
      rw [ek_back, hz, hnp _ _ _ p.1.1.2] at he
      have hcw : p.1.1.1 % 4 = c := by
        apply Classical.byContradiction
        intro hn
        rw [if_neg hn] at he
        exact h3 he
      rw [if_pos hcw] at he
      exact ⟨p.1.1.2, hcw, p.1.2.1.2, he, h3⟩
    · intro hy
      obtain ⟨x, hx, hxe⟩ := nt_ex (l := g.ws y.w) (e := y.e) (h := y.h) (by rw [← hy.n]; exact hy.z)
      have hb := (hG.nb y.w hy.w x hx).2
      have hlo := (hG.ok y.w hy.w).low x hx
      have hf := (hG.fb y.w hy.w).1
      have her : 0 ≤ y.e ∧ y.e < 18446744073709551616 := by omega
      have he := hN.eq y.w y.h y.e hy.w hy.h her
      rw [hnp _ _ _ hy.w, if_pos hy.c, ← hy.n] at he
      unfold zV at he
      cases hm : mget l (ek y.w y.h y.e) with
      | none => rw [hm] at he; exact absurd he.symm hy.z
      | some v =>
        rw [hm] at he
        simp only at he
        have hin := mget_in hm
        obtain ⟨j, hj⟩ := List.getElem?_of_mem hin
        refine ⟨j, _, hall j (List.getElem?_eq_some_iff.1 hj).1, hj, ?_, hy.z⟩
        obtain ⟨yw, yh, ye, yn⟩ := y
        simp only at he her
        have h1 := hy.w; have h2 := hy.h
        simp only at h1 h2
        unfold egOf ek
        simp only [BitVec.toNat_ofNat]
        rw [he, show yw % 16 = yw by omega, show yh % 16 = yh by omega, show ((ye.toNat % 2 ^ 64 : Nat) : Int) = ye by omega]


theorem mget_same (l : List (EK × Value)) (a : EK) (v z : Value) : (mget (mput l a v) a).getD z = v := by rw [mget_mput, if_pos rfl]; rfl
theorem msc_up (fr : Nat) (u : Up) : msc (upMs fr u) = [.int .i64 (fr : Int), .int .i64 ((u.w % 4 : Nat) : Int), .int .u32 u.k, .int .u64 (u.w : Int), .int .u64 u.e, .int .u64 (mi u.s), .int .u64 0] := rfl
theorem row_getM {l : List Ms} {v : Value} {E : List (Nat × Obj)} (h : Row v l.length (fl msc l) 7 77 E) {w : World} (hm : Mem E w) {i : Nat} {x : Ms} (hx : l[i]? = some x) : ∃ b c junk, v = .slice (some ⟨b, 0, none⟩) l.length c ∧ w.heap[b]? = some (C (fl msc l ++ junk) 77) ∧ ((fl msc l ++ junk).drop (0 + i * 7)).take 7 = msc x := by
  obtain ⟨b, c, junk, h1, h2, h3, h4⟩ := row_blk3 h (by have := (List.getElem?_eq_some_iff.1 hx).1; omega)
  exact ⟨b, c, junk, h1, hm b _ (by rw [h4]; exact List.mem_singleton.2 rfl), fl_at msc_len hx junk⟩
theorem m46 : C [.int .u64 0, .int .u64 0, .int .u64 0, .int .u64 0, .int .u64 0, .int .u64 0, .int .u64 0, .int .u64 0, .int .u64 0, .int .u64 0, .int .u64 0, .int .u64 0, .int .u64 0, .int .u64 0, .int .u64 0, .int .u64 0, .slice none 0 0] 46 = C (arrL 17 (shV (fun _ => 0) (.slice none 0 0))) 46 := by unfold arrL; rfl
theorem sh_fl {f : Nat → Int} {v : Value} {t : Nat} (ht : t < 16) : (arrL 17 (shV f v))[0 + 0 + t * 1]? = some (.int .u64 (f t)) := by
  rw [arrL_get (by omega)]; unfold shV; rw [if_neg (by omega)]; congr 3; omega
theorem sh_ed {f : Nat → Int} {v : Value} : (arrL 17 (shV f v))[0 + 16]? = some v := by
  rw [arrL_get (by omega)]; unfold shV; rw [if_pos rfl]
theorem sh_sfl {f : Nat → Int} {v : Value} {t : Nat} {x : Int} (ht : t < 16) : setL (arrL 17 (shV f v)) (0 + 0 + t * 1) [.int .u64 x] = arrL 17 (shV (updI f t x) v) := by
  rw [show 0 + 0 + t * 1 = t by omega, arrL_set (by omega)]
  refine arrL_congr fun j hj => ?_
  unfold updV shV updI
  by_cases e : j = t
  · subst e; rw [if_pos rfl, if_neg (by omega), if_pos rfl]
  · rw [if_neg e]
    by_cases e2 : j = 16
    · rw [if_pos e2, if_pos e2]
    · rw [if_neg e2, if_neg e2, if_neg e]
theorem sh_sed {f : Nat → Int} {v v' : Value} : setL (arrL 17 (shV f v)) (0 + 16) [v'] = arrL 17 (shV f v') := by
  rw [show 0 + 16 = 16 by omega, arrL_set (by omega)]
  refine arrL_congr fun j hj => ?_
  unfold updV shV
  by_cases e : j = 16
  · rw [if_pos e, if_pos e]
  · rw [if_neg e, if_neg e, if_neg e]
theorem floT {ls : List Ms} {i fr : Nat} {u : Up} (hm : ls[i]? = some (upMs fr u)) (hk : u.k = 3) : updI (floF (ls.take i)) u.w (max (floF (ls.take i) u.w) (u.e + 1)) = floF (ls.take (i + 1)) := by
  funext t
  rw [flo_take hm, flo_up]
  unfold updI
  by_cases c : t = u.w
  · rw [if_pos c, if_pos ⟨hk, c⟩]
  · rw [if_neg c, if_neg (fun x => c x.2)]
theorem floN {ls : List Ms} {i fr : Nat} {u : Up} (hm : ls[i]? = some (upMs fr u)) (hk : ¬ u.k = 3) : floF (ls.take i) = floF (ls.take (i + 1)) := by
  funext t
  rw [flo_take hm, flo_up, if_neg (fun x => hk x.1)]
theorem take_snoc {ls : List Ms} {i : Nat} {m : Ms} (hm : ls[i]? = some m) : ls.take (i + 1) = ls.take i ++ [m] := by rw [List.take_add_one, hm]; rfl
theorem tk_snoc {ts : List Nat} {i k : Nat} (hk : ts[i]? = some k) : ts.take (i + 1) = ts.take i ++ [k] := by rw [List.take_add_one, hk]; rfl
theorem nd_take {ts : List Nat} (h : ts.Nodup) {i k : Nat} (hk : ts[i]? = some k) : k ∉ ts.take i := by
  have h1 : ts.take (i + 1) = ts.take i ++ [k] := tk_snoc hk
  have h2 : (ts.take (i + 1)).Nodup := h.sublist (List.take_sublist _ _)
  rw [h1, List.nodup_append] at h2
  exact fun hm => h2.2.2 k hm k (List.mem_singleton.2 rfl) rfl
theorem tasks_nd (m : BitVec 16) : (tasksB m).Nodup := List.nodup_range.sublist List.filter_sublist
theorem tasks_l16 {m : BitVec 16} {k : Nat} (h : k ∈ tasksB m) : k < 16 := List.mem_range.1 (List.mem_filter.1 h).1
structure Y5 where
  l : List (EK × Value)
  i : Nat
structure R5 where
  seen : List Nat
  es : List Eg
  v : Value
  E : List (Nat × Obj)
theorem eg_ofc (p : EK × Value) : egc (egOf p) = [.int .i64 ((p.1.1.1 : Nat) : Int), .int .i64 ((p.1.2.1.1 : Nat) : Int), .int .u64 ((p.1.2.2.toNat : Nat) : Int), .int .i64 (zv p.2)] := rfl
theorem shV_flK {Q : Int} {flr : Nat → Int} {ws : Nat → List Wt} {got : Nat → List Ms} (h : GotOk Q flr ws got) {c : Nat} (hc : c < 4) (v : Value) : arrL 17 (shV (floF (got c)) v) = arrL 17 (shV (flK flr c) v) := by
  refine arrL_congr fun j hj => ?_
  unfold shV
  by_cases e : j = 16
  · rw [if_pos e, if_pos e]
  · rw [if_neg e, if_neg e, h.flK hc (by omega)]
theorem NJ.sgn {f : Nat → Int} {ls : List Ms} {u : Up} {ts : List Nat} {sg : Int} {l : List (EK × Value)} (h : NJ f ls u ts sg l) {s2 : Int} (e : sg = s2) : NJ f ls u ts s2 l := e ▸ h
theorem sh_whole (g : Nat → Value) : ((arrL 17 g).drop 0).take 17 = arrL 17 g := by rw [List.drop_zero, List.take_of_length_le (by rw [arrL_length]; omega)]

end Go.Proofs.Qxb6500911aGreatDoor

import Derived.Test.Qxb6500908aGreatV13
import Derived.Test.Qxb6500908aGreatV4
import Derived.Test.Qxb6500908aGreatV1
namespace Go.Proofs.Qxb6500908aGreat
open Go.Eng
set_option linter.unusedVariables false
set_option linter.unusedSimpArgs false

/-! ## the ledger's state -/
def NtV.k (n : NtV) : List Value := (n.c ++ List.replicate 64 (Value.bool false)).take 64
theorem ntk_len (n : NtV) : n.k.length = 64 := by unfold NtV.k; rw [List.length_take, List.length_append, List.length_replicate]; omega
theorem ntk_eq {Z : List (Nat × Obj)} {n : NtV} (h : n.ok Z) : n.k = n.c := by
  unfold NtV.k; rw [List.take_append_of_le_length (by rw [NtV.len h]; omega), ← NtV.len h, List.take_length]
theorem ntk_one (n : NtV) : n.k.all (·.oneCell') = true := by
  have h : (n.c ++ List.replicate 64 (Value.bool false)).all (·.oneCell') = true := by
    rw [List.all_append, NtV.one]; simp [Value.oneCell']
  rw [List.all_eq_true] at h ⊢
  intro x hx
  exact h x (List.mem_of_mem_take (show x ∈ (n.c ++ List.replicate 64 (Value.bool false)).take 64 from hx))
/-- a version -/
structure Vr where
  id : Int
  n : NtV
def vrc (v : Vr) : List Value := .int .u32 v.id :: v.n.k
theorem vrc_len (v : Vr) : (vrc v).length = 65 := by unfold vrc; rw [List.length_cons, ntk_len]
theorem vrc_one (v : Vr) : (vrc v).all (·.oneCell') = true := by unfold vrc; rw [List.all_cons, ntk_one]; rfl
def vrP (v : Vr) : Int × NtP := (v.id, v.n.pl)
/-- the plain state -/
structure StP where
  ep : Int
  vs : List (Int × NtP)
  is : List Iv
  fid : Int
  ph : Int
  fn : NtP
  vd : Int → Option Int
/-- the state, and where its parts lie -/
structure StV where
  ep : Int
  vs : List Vr
  vp : Option Addr
  vc : Nat
  vE : List (Nat × Obj)
  is : List Iv
  ip : Option Addr
  ic : Nat
  iE : List (Nat × Obj)
  fid : Int
  ph : Int
  fn : NtV
  vb : Nat
  vd : List (Int × Value)
def StV.c (s : StV) : List Value := .int .u32 s.ep :: .slice s.vp s.vs.length s.vc :: .slice s.ip s.is.length s.ic :: .int .u32 s.fid :: .int .u8 s.ph :: (s.fn.k ++ [.map (some s.vb)])
theorem stc_len (s : StV) : s.c.length = 70 := by unfold StV.c; simp only [List.length_cons, List.length_append, ntk_len, List.length_nil]
theorem stc_one (s : StV) : s.c.all (·.oneCell') = true := by unfold StV.c; simp only [List.all_cons, List.all_append, ntk_one]; rfl
def StV.E (s : StV) : List (Nat × Obj) := s.vE ++ (s.iE ++ [(s.vb, MO (kInt .u32) s.vd)])
/-- a verdict as a number -/
def vdN : Option Value → Option Int
  | some (.int _ x) => some x
  | _ => none
def StV.pl (s : StV) : StP := ⟨s.ep, s.vs.map vrP, s.is, s.fid, s.ph, s.fn.pl, fun i => vdN (mget s.vd i)⟩
structure StV.ok (Z : List (Nat × Obj)) (s : StV) : Prop where
  ep : 0 ≤ s.ep ∧ s.ep ≤ 4294967295
  v : Row (.slice s.vp s.vs.length s.vc) s.vs.length (fl vrc s.vs) 65 84 s.vE
  vo : ∀ x, x ∈ s.vs → x.n.ok Z ∧ 0 ≤ x.id ∧ x.id ≤ 4294967295
  vl : s.vs.length ≤ 1000000000
  v1 : 0 < s.vs.length
  i : Row (.slice s.ip s.is.length s.ic) s.is.length (fl ivc s.is) 6 43 s.iE
  io : ∀ x, x ∈ s.is → x.ok
  il : s.is.length ≤ 16
  fid : 0 ≤ s.fid ∧ s.fid ≤ 4294967295
  ph : 0 ≤ s.ph ∧ s.ph ≤ 3
  fn : s.fn.ok Z
  vd : ∀ i v, mget s.vd i = some v → ∃ x, v = .int .u8 x ∧ 0 ≤ x ∧ x ≤ 255
  vk : (s.vd.map Prod.fst).Nodup
theorem StV.ok.app {Z G : List (Nat × Obj)} {s : StV} (h : s.ok Z) : s.ok (Z ++ G) := ⟨h.ep, h.v, fun x hx => ⟨(h.vo x hx).1.app, (h.vo x hx).2⟩, h.vl, h.v1, h.i, h.io, h.il, h.fid, h.ph, h.fn.app, h.vd, h.vk⟩
theorem get_app9 {l r : List Value} {n j : Nat} (h : l.length = n) : (l ++ r)[n + j]? = r[j]? := by
  rw [List.getElem?_append_right (by omega), h, show n + j - n = j by omega]
theorem set_app9 {l r vs : List Value} {n j : Nat} (h : l.length = n) : setL (l ++ r) (n + j) vs = l ++ setL r j vs := by
  unfold setL
  rw [List.take_append, List.drop_append, h, List.take_of_length_le (by omega), show n + j - n = j by omega, List.drop_of_length_le (by omega), show n + j + vs.length - n = j + vs.length by omega]
  simp
theorem set_front {l r vs : List Value} (h : l.length = vs.length) : setL (l ++ r) 0 vs = vs ++ r := by
  unfold setL
  rw [List.take_zero, Nat.zero_add, ← h, List.drop_left]; simp
theorem stc_vd (s : StV) : s.c[69]? = some (.map (some s.vb)) := by
  have : s.c = [Value.int .u32 s.ep, .slice s.vp s.vs.length s.vc, .slice s.ip s.is.length s.ic, .int .u32 s.fid, .int .u8 s.ph] ++ (s.fn.k ++ [.map (some s.vb)]) := rfl
  rw [this, show 69 = 5 + 64 from rfl, get_app9 (n := 5) rfl, show 64 = 64 + 0 from rfl, get_app9 (ntk_len _)]; rfl
theorem stc_svd (s : StV) (b : Nat) : setL s.c 69 [.map (some b)] = StV.c { s with vb := b } := by
  have : s.c = [Value.int .u32 s.ep, .slice s.vp s.vs.length s.vc, .slice s.ip s.is.length s.ic, .int .u32 s.fid, .int .u8 s.ph] ++ (s.fn.k ++ [.map (some s.vb)]) := rfl
  rw [this, show 69 = 5 + 64 from rfl, set_app9 (n := 5) rfl, show 64 = 64 + 0 from rfl, set_app9 (ntk_len _)]; rfl
theorem stc_all (s : StV) : (s.c.drop 0).take 70 = s.c := by rw [List.drop_zero, ← stc_len s, List.take_length]
theorem stc_net (s : StV) : (s.c.drop 5).take 64 = s.fn.k := by
  show (s.fn.k ++ [Value.map (some s.vb)]).take 64 = s.fn.k
  rw [List.take_append_of_le_length (by rw [ntk_len]; omega), ← ntk_len s.fn, List.take_length]
theorem stc_fl (s : StV) : (s.c.drop 3).take 66 = .int .u32 s.fid :: .int .u8 s.ph :: s.fn.k := by
  show ((Value.int .u32 s.fid :: .int .u8 s.ph :: (s.fn.k ++ [.map (some s.vb)])).take 66) = _
  rw [show 66 = 64 + 1 + 1 from rfl, List.take_succ_cons, List.take_succ_cons, List.take_append_of_le_length (by rw [ntk_len]; omega), ← ntk_len s.fn, List.take_length]
theorem stc_sfl (s : StV) (i p : Int) (n : NtV) : setL s.c 3 (.int .u32 i :: .int .u8 p :: n.k) = StV.c { s with fid := i, ph := p, fn := n } := by
  have h1 : s.c = [Value.int .u32 s.ep, .slice s.vp s.vs.length s.vc, .slice s.ip s.is.length s.ic] ++ ((.int .u32 s.fid :: .int .u8 s.ph :: s.fn.k) ++ [.map (some s.vb)]) := rfl
  rw [h1, show 3 = 3 + 0 from rfl, set_app9 (n := 3) rfl, set_front (by simp [ntk_len])]; rfl
/-! ## copying a map -/
structure CpS where
  seen : List Nat
  l : List (Int × Value)
structure CpI (l0 : List (Int × Value)) (s : CpS) : Prop where
  sd : s.seen.Nodup
  sl : ∀ j, j ∈ s.seen → j < l0.length
  k : (s.l.map Prod.fst).Nodup
  g : ∀ a v, mget s.l a = some v → mget l0 a = some v
  f : ∀ j p, j ∈ s.seen → l0[j]? = some p → mget s.l p.1 = some p.2
theorem mget_at9 : ∀ {l : List (Int × Value)} {j : Nat} {p : Int × Value}, (l.map Prod.fst).Nodup → l[j]? = some p → mget l p.1 = some p.2
  | [], j, p, _, h => by simp at h
  | q :: t, 0, p, _, h => by
    simp only [List.getElem?_cons_zero, Option.some.injEq] at h
    subst h; unfold mget; simp
  | q :: t, j + 1, p, hn, h => by
    rw [List.getElem?_cons_succ] at h
    rw [List.map_cons, List.nodup_cons] at hn
    have hne : ¬ p.1 = q.1 := fun e => hn.1 (by rw [← e]; exact List.mem_map.2 ⟨p, List.mem_of_getElem? h, rfl⟩)
    unfold mget; rw [if_neg hne]
    exact mget_at9 hn.2 h
theorem mget_ex9 : ∀ {l : List (Int × Value)} {a : Int} {v : Value}, mget l a = some v → ∃ j : Nat, l[j]? = some (a, v)
  | [], a, v, h => by cases h
  | q :: t, a, v, h => by
    unfold mget at h
    split at h
    · rename_i e
      injection h with h
      exact ⟨0, by rw [List.getElem?_cons_zero, e, ← h]⟩
    · obtain ⟨j, hj⟩ := mget_ex9 h
      exact ⟨j + 1, by rw [List.getElem?_cons_succ]; exact hj⟩
theorem mput_k9 : ∀ {l : List (Int × Value)} {a : Int} {v : Value}, (l.map Prod.fst).Nodup → ((mput l a v).map Prod.fst).Nodup ∧ ∀ x, x ∈ (mput l a v).map Prod.fst → x = a ∨ x ∈ l.map Prod.fst
  | [], a, v, _ => by unfold mput; simp
  | q :: t, a, v, hn => by
    rw [List.map_cons, List.nodup_cons] at hn
    unfold mput
    split
    · rename_i e
      rw [List.map_cons, List.nodup_cons]
      refine ⟨⟨hn.1, hn.2⟩, fun x hx => ?_⟩
      rcases List.mem_cons.1 hx with h | h
      · exact .inl (h.trans e.symm)
      · exact .inr (by rw [List.map_cons]; exact List.mem_cons_of_mem _ h)
    · rename_i e
      obtain ⟨h1, h2⟩ := mput_k9 (l := t) (a := a) (v := v) hn.2
      rw [List.map_cons, List.nodup_cons]
      refine ⟨⟨fun h => ?_, h1⟩, fun x hx => ?_⟩
      · rcases h2 _ h with h3 | h3
        · exact e h3.symm
        · exact hn.1 h3
      · rcases List.mem_cons.1 hx with h | h
        · exact .inr (by rw [List.map_cons, h]; exact List.mem_cons_self ..)
        · rcases h2 x h with h3 | h3
          · exact .inl h3
          · exact .inr (by rw [List.map_cons]; exact List.mem_cons_of_mem _ h3)
theorem CpI.start (l0 : List (Int × Value)) : CpI l0 ⟨[], []⟩ := ⟨List.nodup_nil, fun j h => (by cases h), List.nodup_nil, fun a v h => (by cases h), fun j p h => (by cases h)⟩
theorem CpI.next {l0 : List (Int × Value)} {s : CpS} (h : CpI l0 s) (hk : (l0.map Prod.fst).Nodup) {j : Nat} {p : Int × Value} (hj : l0[j]? = some p) (hn : j ∉ s.seen) : CpI l0 ⟨s.seen ++ [j], mput s.l p.1 p.2⟩ := by
  refine ⟨?_, fun i hi => ?_, (mput_k9 h.k).1, fun a v e => ?_, fun i q hi hq => ?_⟩
  · rw [List.nodup_append]
    exact ⟨h.sd, by simp, fun a ha b hb => by rw [List.mem_singleton.1 hb]; intro e; subst e; exact hn ha⟩
  · rcases List.mem_append.1 hi with h9 | h9
    · exact h.sl i h9
    · rw [List.mem_singleton.1 h9]; exact (List.getElem?_eq_some_iff.1 hj).1
  · simp only at e
    rw [mget_mput] at e
    split at e
    · rename_i e2
      rw [e2, mget_at9 hk hj]; exact e
    · exact h.g a v e
  · simp only
    rw [mget_mput]
    split
    · rename_i e2
      have a1 := mget_at9 hk hj
      have a2 := mget_at9 hk hq
      rw [e2, a1] at a2; exact a2
    · rename_i e2
      rcases List.mem_append.1 hi with h9 | h9
      · exact h.f i q h9 hq
      · rw [List.mem_singleton.1 h9, hj] at hq
        injection hq with hq
        exact absurd (by rw [hq]) e2
theorem CpI.done {l0 : List (Int × Value)} {s : CpS} (h : CpI l0 s) (ha : ∀ j, j < l0.length → j ∈ s.seen) : ∀ a, mget s.l a = mget l0 a := by
  intro a
  cases hq : mget l0 a with
  | some v =>
    obtain ⟨j, hj⟩ := mget_ex9 hq
    exact h.f j _ (ha j (List.getElem?_eq_some_iff.1 hj).1) hj
  | none =>
    cases hr : mget s.l a with
    | none => rfl
    | some v => rw [h.g a v hr] at hq; cases hq
theorem nodup_len9 {l : List Nat} {n : Nat} (hd : l.Nodup) (hl : ∀ j, j ∈ l → j < n) : l.length ≤ n := by
  have h := List.Nodup.length_le_of_subset (l₁ := l) (l₂ := List.range n) hd (fun j hj => List.mem_range.2 (hl j hj))
  simpa using h
theorem StV.E_eq (s : StV) : s.E = s.vE ++ (s.iE ++ [(s.vb, MO (kInt .u32) s.vd)]) := rfl

end Go.Proofs.Qxb6500908aGreat

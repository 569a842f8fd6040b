import Derived.Test.Qxb6500913aInv3
namespace Go.Proofs.Qxb6500913a
open Go.Eng
set_option linter.unusedVariables false
set_option linter.unusedSimpArgs false

theorem has_comm2 {D : List Nat} {w0 w : World} {A B : List (Nat × Obj)} {x y : Nat × Obj} (h : Has D w0 (x :: y :: (A ++ B)) w) : Has D w0 (B ++ (x :: y :: A)) w :=
  h.perm (List.perm_append_comm (l₁ := x :: y :: A) (l₂ := B))
theorem spk_ro {P : Program} {fn : FuncId} {args : Array Value} {Pre : World → Prop} {R : Value → Prop} {F : List (Nat × Obj)} (h : SpK P fn args Pre [] (fun v F' => R v ∧ F' = [])) (hp : ∀ w, Mem F w → Pre w) :
    Sp P fn args F (fun v F' => R v ∧ F' = F) := by
  intro w _ hm hnd
  refine (h w (hp w hm) (fun b o m => by cases m) List.nodup_nil).mono fun e w' hq => ?_
  cases e with
  | returned v =>
    obtain ⟨F', ⟨hr, rfl⟩, hh⟩ := hq
    exact ⟨F, ⟨hr, rfl⟩, ⟨⟨hh.frm.os, hh.frm.tape, hh.frm.output, hh.frm.size, fun b hb _ => hh.frm.block b hb (by simp)⟩, fun b o m => hh.old (hm b o m) (by simp), hnd, fun b o m => .inl (List.mem_map_of_mem m)⟩⟩
  | _ => exact hq

/-- a ref among the refs -/
def rv64 (r : Nat) : Value := .int .u64 (r : Int)
def plainF (rs : List Nat) (o : MOp) : MOp := if o.kd = 7 ∧ 0 < rs.length then ⟨6, 0, rs.getD (o.a % rs.length) 0, 0, 0, 0⟩ else o
theorem plainF_ok {rs : List Nat} {o : MOp} (ho : o.ok) (hr : ∀ r, r ∈ rs → r < 18446744073709551616) : (plainF rs o).ok := by
  unfold plainF
  split
  · rename_i h
    refine ⟨(by decide : 6 < 256), (by decide : 0 < 4294967296), ?_, (by decide : 0 < 18446744073709551616), (by decide : 0 < 18446744073709551616), (by decide : 0 < 18446744073709551616)⟩
    have hlt : o.a % rs.length < rs.length := Nat.mod_lt _ h.2
    simp only [List.getD, List.getElem?_eq_getElem hlt, Option.getD_some]
    exact hr _ (List.getElem_mem hlt)
  · exact ho
theorem plain_spec (rs : List Nat) (rv : Value) (Er : List (Nat × Obj)) (hR : Row rv rs.length (rs.map rv64) 1 63 Er) (hn : rs.length ≤ 1000000) (o : MOp) :
    Sp Try.prog 16 #[.agg ⟨o.vals⟩, rv] Er (fun v F' => v = .agg ⟨(plainF rs o).vals⟩ ∧ F' = Er) := by
  obtain ⟨kd, x, A, B, E, D⟩ := o
  unfold plainF
  rcases hR with ⟨rfl, h0, _, rfl⟩ | ⟨b, cap, junk, rfl, h1, h2, h3, rfl⟩
  · rw [if_neg (by omega)]
    exact plain_same kd x A B E D none 0 0 (.inr rfl)
  · by_cases hk : kd = 7 ∧ 0 < rs.length
    · rw [if_pos hk]
      have hlt : A % rs.length < rs.length := Nat.mod_lt _ hk.2
      refine spk_ro (plain_free kd x A B E D b rs.length cap _ hk.1 hk.2 (by omega) _ ?_) (fun w hm => hm b _ (List.mem_cons_self ..))
      simp only [Nat.zero_add, Nat.mul_one]
      rw [List.getElem?_append_left (by simpa using hlt), List.getElem?_map, List.getElem?_eq_getElem hlt]
      simp only [List.getD, List.getElem?_eq_getElem hlt, Option.getD_some, Option.map_some, rv64]
    · rw [if_neg hk]
      refine spk_ro (Pre := Any) (plain_same kd x A B E D _ rs.length cap ?_) (fun _ _ => trivial)
      simp only [not_and, Nat.not_lt] at hk
      by_cases c : kd = 7
      · right; have := hk c; omega
      · exact .inl c

def keepF (rs : List Nat) (o : MOp) (r : Ans) : List Nat := if o.kd = 5 ∧ r.st = 0 then rs ++ [r.w0.toNat] else rs
theorem keepF_len (rs : List Nat) (o : MOp) (r : Ans) : (keepF rs o r).length ≤ rs.length + 1 := by
  unfold keepF; split <;> simp

theorem alloc_ref {f : Nat → Int} {fl : Nat → List Nat} {k : Nat} (h : Inv f fl k) (n : Nat) : ∃ r : Nat, (allocF f n).ref = r ∧ r < 18446744073709551616 := by
  unfold allocF
  by_cases c1 : n = 0 ∨ 32 < n
  · rw [if_pos c1]; exact ⟨0, rfl, by omega⟩
  rw [if_neg c1]
  obtain ⟨s, hs⟩ : ∃ s, (n + 1) / 2 * 2 = s := ⟨_, rfl⟩
  simp only [hs]
  by_cases c2 : lst f (s / 2 - 1) ≠ 0
  · rw [if_pos c2]
    obtain ⟨x, hx⟩ : ∃ x : Nat, lst f (s / 2 - 1) = x := by
      have hch := h.chain (s / 2 - 1) (by omega)
      cases hfl : fl (s / 2 - 1) with
      | nil => rw [hfl] at hch; exact absurd hch c2
      | cons y l => rw [hfl] at hch; exact ⟨y, hch.1⟩
    rw [hx]
    obtain ⟨m1, m2, _, m3, _⟩ := h.pop (by omega) (by omega) (by omega) hx (by omega)
    have g1 := m3.free m2
    have g0 := h.gens x m1
    simp only [Int.toNat_natCast]
    exact ⟨((gen f x).toNat + 1) * 65536 + x, by simp, by omega⟩
  rw [if_neg c2]
  by_cases c3 : fresh f + s ≤ 4096 ∧ boot f < 281474976710655
  · rw [if_pos c3]
    obtain ⟨x, hx, q2, q3, q4⟩ := h.fr
    rw [hx]
    simp only [Int.toNat_natCast]
    have hu := (h.unt x (by omega) (.inr (by omega))).2.1
    have hb := h.bootR
    exact ⟨((gen f x).toNat + 1) * 65536 + x, by simp, by rw [hu]; omega⟩
  · rw [if_neg c3]; exact ⟨0, rfl, by omega⟩

theorem keepF_ok {f : Nat → Int} {fl : Nat → List Nat} {k : Nat} (h : Inv f fl k) {rs : List Nat} (o : MOp) (hr : ∀ r, r ∈ rs → r < 18446744073709551616) : ∀ r, r ∈ keepF rs o (doF f o).ans → r < 18446744073709551616 := by
  intro r hm
  unfold keepF at hm
  split at hm
  · rename_i hc
    rcases List.mem_append.1 hm with h1 | h1
    · exact hr r h1
    · simp only [List.mem_singleton] at h1
      subst h1
      unfold doF
      rw [if_neg (by omega), if_neg (by omega), if_neg (by omega), if_neg (by omega), if_neg (by omega), if_pos hc.1]
      split
      · show (0 : Int).toNat < _; decide
      · obtain ⟨q, e, hq⟩ := alloc_ref h o.a
        show (allocF f o.a).ref.toNat < _
        rw [e]; simpa using hq
  · exact hr r hm

theorem gdo_spec (gb b : Nat) {f : Nat → Int} {fl : Nat → List Nat} {k : Nat} (hI : Inv f fl k) (hk : k ≤ 1000000) (rs : List Nat) (rv : Value) (Er : List (Nat × Obj)) (hR : Row rv rs.length (rs.map rv64) 1 63 Er) (hn : rs.length ≤ 1000000) (o : MOp) (ho : o.ok) :
    Sp Try.prog 17 #[.pointer (some ⟨gb, 0, none⟩), .agg ⟨o.vals⟩] ((gb, C [.pointer (some ⟨b, 0, none⟩), rv] 41) :: (b, C (encL f) 87) :: Er)
      (fun v F' => v = .agg ⟨(doF f o).ans.l⟩ ∧ ∃ rv2 E2, Row rv2 (keepF rs o (doF f o).ans).length ((keepF rs o (doF f o).ans).map rv64) 1 63 E2 ∧ F' = (gb, C [.pointer (some ⟨b, 0, none⟩), rv2] 41) :: (b, C (encL (doF f o).f) 87) :: E2) := by
  have hs := do_spec b f o ho (hI.good hk) (hI.wf hk)
  by_cases hc : o.kd = 5 ∧ (doF f o).ans.st = 0
  · have hw : ∃ q : Nat, (doF f o).ans.w0 = q := by
      unfold doF
      rw [if_neg (by omega), if_neg (by omega), if_neg (by omega), if_neg (by omega), if_neg (by omega), if_pos hc.1]
      split
      · exact ⟨0, rfl⟩
      · obtain ⟨q, e, _⟩ := alloc_ref hI o.a
        exact ⟨q, e⟩
    obtain ⟨q, hq⟩ := hw
    have e : keepF rs o (doF f o).ans = rs ++ [q] := by unfold keepF; rw [if_pos hc, hq]; rfl
    rw [e]
    have := gdo_app gb b f _ rv Er o.kd o.x o.a o.b o.c o.d _ _ _ _ hs (rs.map Int.ofNat) (by rw [List.length_map, List.map_map]; exact hR) (by rw [List.length_map]; exact hn) hc.1 hc.2
    intro w hp hm hnd
    refine (this w hp hm hnd).mono fun e w' hq' => ?_
    cases e with
    | returned v =>
      obtain ⟨F', ⟨hv, rv2, E2, hR2, hF⟩, hh⟩ := hq'
      refine ⟨F', ⟨hv, rv2, E2, ?_, hF⟩, hh⟩
      rw [List.length_map, List.map_map, hq] at hR2
      rw [List.map_append, List.length_append]
      exact hR2
    | _ => exact hq'
  · have e : keepF rs o (doF f o).ans = rs := by unfold keepF; rw [if_neg hc]
    rw [e]
    have := gdo_other gb b f _ rv Er o.kd o.x o.a o.b o.c o.d _ _ _ _ hs (by
      by_cases c : o.kd = 5
      · exact .inr (fun h => hc ⟨c, h⟩)
      · exact .inl c)
    intro w hp hm hnd
    refine (this w hp hm hnd).mono fun e w' hq' => ?_
    cases e with
    | returned v =>
      obtain ⟨F', ⟨hv, hF⟩, hh⟩ := hq'
      exact ⟨F', ⟨hv, rv, Er, hR, hF⟩, hh⟩
    | _ => exact hq'

/-- the ops that a slice holds -/
structure Ops (sb : Nat) (c : List Value) (p : Option Addr) (cap : Nat) (ops : List MOp) : Prop where
  le : ops.length ≤ cap
  ok : ∀ o, o ∈ ops → o.ok
  at_ : 0 < ops.length → ∃ so, p = some ⟨sb, so, none⟩ ∧ ∀ i o, ops[i]? = some o → (c.drop (so + i * 6)).take 6 = o.vals
/-- the block that holds them lies there -/
def OpsIn (sb : Nat) (c : List Value) (T : TypeId) (fr : Nat × Nat) (ops : List MOp) (w : World) : Prop := 0 < ops.length → w.heap[sb]? = some (.cells ⟨c⟩ T fr)
theorem OpsIn.keep {sb : Nat} {c : List Value} {T : TypeId} {fr : Nat × Nat} {ops : List MOp} {w w' : World} (h : ∀ b, b < w.heap.size → w'.heap[b]? = w.heap[b]?) (hp : OpsIn sb c T fr ops w) : OpsIn sb c T fr ops w' := by
  intro h0
  have := hp h0
  rw [h sb (Array.getElem?_eq_some_iff.1 this).1]
  exact this

def StartR (sb : Nat) (c : List Value) (ops : List MOp) (u : Value) (F' : List (Nat × Obj)) : Prop :=
  ∃ gb k p n cap steps G, n = steps.length ∧ u = .tuple #[.pointer (some ⟨gb, 0, none⟩), .slice p n cap] ∧ Ops sb c p cap steps ∧ steps.length ≤ ops.length ∧ 0 ≤ G ∧ G ≤ 281474976710655 ∧
    F' = [(gb, C [.pointer (some ⟨k, 0, none⟩), .slice none 0 0] 41), (k, C (encL (initF G)) 87)]

theorem newAt_any (g : Nat) : ∃ G : Int, 0 ≤ G ∧ G ≤ 281474976710655 ∧ Sp Try.prog 38 #[.int .u64 g] [] (fun u F' => ∃ k, u = .pointer (some ⟨k, 0, none⟩) ∧ F' = [(k, C (encL (initF G)) 87)]) := by
  rcases Nat.lt_or_ge 281474976710655 g with h | h
  · exact ⟨281474976710655, by omega, by omega, newAt_gt g h⟩
  · exact ⟨g, by omega, by omega, newAt_le g h⟩

theorem spk_weak {P : Program} {fn : FuncId} {args : Array Value} {Pre Pre' : World → Prop} {R R' : Value → List (Nat × Obj) → Prop} {F : List (Nat × Obj)} (h : SpK P fn args Pre F R) (hp : ∀ w, Pre' w → Pre w) (hr : ∀ v F', R v F' → R' v F') : SpK P fn args Pre' F R' := by
  intro w p hm hnd
  refine (h w (hp w p) hm hnd).mono fun e w' hq => ?_
  cases e with
  | returned v => obtain ⟨F', r, hh⟩ := hq; exact ⟨F', hr v F' r, hh⟩
  | _ => exact hq

theorem start_spec (sb : Nat) (c : List Value) (T : TypeId) (fr : Nat × Nat) (p : Option Addr) (n cap : Nat) (ops : List MOp) (hn : n = ops.length) (h : Ops sb c p cap ops) :
    SpK Try.prog 13 #[.slice p n cap] (OpsIn sb c T fr ops) [] (StartR sb c ops) := by
  subst hn
  cases ops with
  | nil =>
    obtain ⟨G, g0, g1, hnew⟩ := newAt_any 0
    refine spk_weak (start_gen _ _ 0 G (OpsIn sb c T fr []) (spk_weak (boot_nil p cap) (fun _ _ => trivial) (fun _ _ r => r)) hnew (fun w w' hw hp => hp.keep hw)) (fun _ hp => hp) ?_
    rintro u F' ⟨gb, k, rfl, rfl⟩
    exact ⟨gb, k, p, 0, cap, [], G, rfl, rfl, h, Nat.le_refl _, g0, g1, rfl⟩
  | cons o ops =>
    obtain ⟨so, rfl, h0⟩ := h.at_ (by simp)
    have hle := h.le
    simp only [List.length_cons] at hle
    have hin : ∀ w, OpsIn sb c T fr (o :: ops) w → w.heap[sb]? = some (.cells ⟨c⟩ T fr) := fun w hp => hp (by simp)
    by_cases hk : o.kd = 8
    · have tl : ∀ o', o' ∈ ops → o'.ok := fun o' m => h.ok o' (List.mem_cons_of_mem _ m)
      obtain ⟨G, g0, g1, hnew⟩ := newAt_any o.a
      by_cases h1 : 1 < cap
      · refine spk_weak (start_gen _ _ o.a G (OpsIn sb c T fr (o :: ops)) (spk_weak (boot_yes so cap sb c T fr o ops hle h0 hk h1) hin (fun _ _ r => r)) hnew (fun w w' hw hp => hp.keep hw)) (fun _ hp => hp) ?_
        rintro u F' ⟨gb, k, rfl, rfl⟩
        refine ⟨gb, k, _, _, cap - 1, ops, G, by simp, rfl, ⟨by omega, tl, fun h2 => ⟨so + 1 * 6, rfl, fun i q hq => ?_⟩⟩, by simp, g0, g1, rfl⟩
        have := h0 (i + 1) q (by simpa using hq)
        rw [show so + 1 * 6 + i * 6 = so + (i + 1) * 6 by omega]
        exact this
      · have e : ops = [] := by cases ops with
          | nil => rfl
          | cons a b => simp only [List.length_cons] at hle; omega
        subst e
        refine spk_weak (start_gen _ _ o.a G (OpsIn sb c T fr (o :: [])) (spk_weak (boot_yes1 so cap sb c T fr o [] hle h0 hk (by simp only [List.length_nil] at hle; omega)) hin (fun _ _ r => r)) hnew (fun w w' hw hp => hp.keep hw)) (fun _ hp => hp) ?_
        rintro u F' ⟨gb, k, rfl, rfl⟩
        exact ⟨gb, k, _, _, 0, [], G, rfl, rfl, ⟨Nat.le_refl _, tl, fun h2 => absurd h2 (by simp)⟩, by simp, g0, g1, rfl⟩
    · obtain ⟨G, g0, g1, hnew⟩ := newAt_any 0
      refine spk_weak (start_gen _ _ 0 G (OpsIn sb c T fr (o :: ops)) (spk_weak (boot_no so cap sb c T fr o ops hle h0 hk) hin (fun _ _ r => r)) hnew (fun w w' hw hp => hp.keep hw)) (fun _ hp => hp) ?_
      rintro u F' ⟨gb, k, rfl, rfl⟩
      exact ⟨gb, k, _, _, cap, o :: ops, G, rfl, rfl, h, Nat.le_refl _, g0, g1, rfl⟩

end Go.Proofs.Qxb6500913a

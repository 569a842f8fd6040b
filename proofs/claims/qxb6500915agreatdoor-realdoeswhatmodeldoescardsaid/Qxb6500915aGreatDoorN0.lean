import Derived.Test.Qxb6500915aGreatDoorM2
namespace Go.Proofs.Qxb6500915aGreatDoor
open Go.Eng
set_option linter.unusedVariables false
set_option linter.unusedSimpArgs false

/-! ## laws 5 and 6, plain -/
section p56
theorem noo_pv {A : List Ru} {ps' l : List Pd} {q0 qs : List RV} (h : NoO A ps' l q0 qs) : PV A ((drL qs).map RV.ru) ∧ (∀ b, b ∈ (drL qs).map RV.ru → ∀ x, x ∈ vars b → 0 ≤ x) ∧ ∀ b, b ∈ (drL qs).map RV.ru → ∃ a, a ∈ A ∧ CanF a b := by
  obtain ⟨ps, bad, h1, _⟩ := h.ck
  have hb := (tabl_of h1).t.b
  have key : ∀ b, b ∈ (drL qs).map RV.ru → ∃ a, a ∈ A ∧ CanF a b := fun b hb9 => by
    obtain ⟨a, ha, e⟩ := (h.mem b).1 hb9
    exact ⟨a, ha, can_form (hb a ha) e⟩
  refine ⟨⟨fun a ha => ?_, fun b hb9 => ?_⟩, fun b hb9 x hx => ?_, key⟩
  · have h5 : canR a ∈ A.map canR := List.mem_map.2 ⟨a, ha, rfl⟩
    rw [← h.cn] at h5
    obtain ⟨q, _, h6⟩ := List.mem_map.1 h5
    exact ⟨q.ru, (h.mem q.ru).2 ⟨a, ha, h6.symm⟩, (can_form (hb a ha) h6.symm).v⟩
  · obtain ⟨a, ha, hc⟩ := key b hb9
    exact ⟨a, ha, hc.v⟩
  · obtain ⟨a, ha, hc⟩ := key b hb9
    obtain ⟨m, hm⟩ := hc.n
    rw [hm] at hx
    exact (mem_ints.1 hx).1
structure N5I (rus : List Ru) (n : Nat) (z : NZ) : Prop where
  i : z.i ≤ n
  ol : z.out.length = z.i
  jl : (fl RV.c3 z.out ++ z.jb).length = n * 3
  cn : z.out.map (fun q => some q.ru) = (rus.take z.i).map canR
  ok : ∀ q, q ∈ z.out → q.ok
theorem N5I.next {rus : List Ru} {n : Nat} {z : NZ} (h : N5I rus n z) {r : Ru} {q : RV} (hr : rus[z.i]? = some r) (hn : z.i < n) (hc : canR r = some q.ru) (hq : q.ok) : N5I rus n ⟨z.i + 1, z.out ++ [q], z.jb.drop 3⟩ := by
  have hj := h.jl
  rw [List.length_append, fl_len c3_len, h.ol] at hj
  refine ⟨hn, by simp only [List.length_append, List.length_singleton, h.ol], ?_, ?_, fun x hx => ?_⟩
  · simp only
    rw [List.length_append, fl_len c3_len, List.length_append, List.length_singleton, List.length_drop, h.ol]; omega
  · simp only
    rw [List.map_append, h.cn, List.take_add_one, hr, List.map_append]
    simp [hc]
  · rcases List.mem_append.1 hx with h9 | h9
    · exact h.ok x h9
    · rw [List.mem_singleton.1 h9]; exact hq
theorem n5_put {rus : List Ru} {n : Nat} {z : NZ} (h : N5I rus n z) (hn : z.i < n) (q : RV) : setL (fl RV.c3 z.out ++ z.jb) (0 + z.i * 3) q.c3 = fl RV.c3 (z.out ++ [q]) ++ z.jb.drop 3 := by
  have hj := h.jl
  rw [List.length_append, fl_len c3_len, h.ol] at hj
  have := app_gen c3_len z.out q z.jb z.out.length rfl (by omega)
  rw [h.ol] at this; exact this
theorem N5I.at {rus : List Ru} {n : Nat} {z : NZ} (h : N5I rus n z) {k : Nat} {q : RV} (hq : z.out[k]? = some q) : ∃ a, rus[k]? = some a ∧ canR a = some q.ru := by
  have h1 := map_at (fun q : RV => some q.ru) hq
  rw [h.cn, List.getElem?_map] at h1
  cases hr : (rus.take z.i)[k]? with
  | none => rw [hr] at h1; cases h1
  | some a =>
    rw [hr] at h1
    injection h1 with h1
    refine ⟨a, ?_, h1⟩
    rw [List.getElem?_take] at hr
    split at hr
    · exact hr
    · cases hr
/-- equal forms, matched rules -/
theorem form_mat {a b qa qb : Ru} (ha : a.b.length ≤ 64) (hb : b.b.length ≤ 64) (h1 : canR a = some qa) (h2 : canR b = some qb) : qa = qb ↔ Mat a b := by
  rw [mat_iff]
  constructor
  · intro e
    subst e
    exact (can_form ha h1).v.trans (can_form hb h2).v.symm
  · intro h
    have := canon_iso h ha
    rw [h1, h2] at this
    injection this
theorem can_idem {a q q2 : Ru} (ha : a.b.length ≤ 64) (h1 : canR a = some q) (h2 : canR q = some q2) : q2 = q := by
  have := canon_iso (can_form ha h1).v ha
  rw [h1, h2] at this
  injection this with this; exact this.symm
end p56


theorem canS_spec (r : RV) (hr : r.ok) (h5 : r.ls.length ≤ 5) (hv : (vars r.ru).length ≤ 1000) : SpK Tryz.prog 23 #[.agg ⟨[.string r.p, .slice r.hp r.a.length r.hc, .slice r.bp r.ls.length r.bc]⟩] (Mem r.E) [] (fun v F' => ∃ q : RV, q.ok ∧ canR r.ru = some q.ru ∧ v = .tuple #[.agg ⟨[.string q.p, .slice q.hp q.a.length q.hc, .slice q.bp q.ls.length q.bc]⟩, .int .u8 0] ∧ F' = q.E) :=
  spk_mono (canon_spec r hr (by omega) (by rw [canI_vs]; exact hv)) fun v F h => by
    rcases h with ⟨h1, _⟩ | h
    · obtain ⟨q, hq⟩ := can_small (r := r.ru) (by show (r.ls.map LV.l).length ≤ 5; rw [List.length_map]; exact h5)
      rw [h1] at hq; cases hq
    · exact h
end Go.Proofs.Qxb6500915aGreatDoor

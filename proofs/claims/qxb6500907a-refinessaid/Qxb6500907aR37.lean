import Derived.Test.Qxb6500907aR36
namespace Go.Proofs.Qxb6500907a
open Go.Eng
set_option linter.unusedVariables false
set_option linter.unusedSimpArgs false

/-! ## the closure of the law -/
theorem mem_zeD {D : List Nat} {w0 w : World} {F Z E : List (Nat × Obj)} (hh : Has D w0 F w) (hp : Mem Z w0) (hd : ∀ x, x ∈ Z → x.1 ∉ D) (hE : ∀ x, x ∈ E → x ∈ F) : Mem (Z ++ E) w := fun b o m => by
  rcases List.mem_append.1 m with m | m
  · exact mem_keepD hh hp hd b o m
  · exact hh.mem b o (hE _ m)
def PlcA (v : Value) (F : List (Nat × Obj)) (code pos : Int) : Prop := (v = .nilIface ∧ F = [] ∧ code = 0 ∧ pos = -1) ∨ (∃ k : Nat, v = .iface 77 (.pointer (some ⟨k, 0, none⟩)) ∧ F = [(k, C [.int .u8 code, .int .i64 pos] 79)])
theorem chk_take9 {cs : List Ch} (h : chk cs) (n : Nat) : chk (cs.take n) := ⟨by have := h.1; rw [List.length_take]; omega, fun c hc => h.2 c (List.mem_of_mem_take hc)⟩
theorem bad_lt {P : Pl} {cs : List Ch} {i j : Nat} {c : Ch} {P1 P2 : Pl} {us us2 : List Ch} (hc : chk cs) (hi : cs[i]? = some c) (h1 : steps P (cs.take i) = (P1, us, 0)) (h0 : (doP P1 c).2.2 ≠ 0) (h2 : steps P (cs.take j) = (P2, us2, 0)) : j ≤ i := by
  refine Nat.le_of_not_lt fun hlt => ok_not_bad (code := (doP P1 c).2.2) (pos := (i : Int)) (chk_take9 hc j) h2 (.inr ⟨chk_take9 hc j, i, c, P1, us, rfl, ?_, ?_, rfl, h0⟩)
  · rw [List.getElem?_take_of_lt hlt]; exact hi
  · rw [List.take_take, Nat.min_eq_left (by omega)]; exact h1
theorem bad_uniq {P : Pl} {cs : List Ch} {code pos : Int} {i : Nat} {c : Ch} {P1 : Pl} {us : List Ch} (hc : chk cs) (hb : RunBad P cs code pos) (hi : cs[i]? = some c) (h1 : steps P (cs.take i) = (P1, us, 0)) (h0 : (doP P1 c).2.2 ≠ 0) : (doP P1 c).2.2 = code ∧ (i : Int) = pos := by
  rcases hb with ⟨h, _⟩ | ⟨_, j, c', P1', us', rfl, hj, g1, g2, g3⟩
  · exact absurd hc h
  · have e1 := bad_lt hc hi h1 h0 g1
    have e2 := bad_lt hc hj g1 (by rw [g2]; exact g3) h1
    have e : i = j := by omega
    subst e
    rw [hi] at hj
    injection hj with hj
    rw [h1] at g1
    injection g1 with g1 _
    rw [hj, g1]
    exact ⟨g2, rfl⟩
theorem bad_ne9 {P : Pl} {cs : List Ch} {code pos : Int} (h : RunBad P cs code pos) : code ≠ 0 := by
  rcases h with ⟨_, h1, h2⟩ | ⟨_, _, _, _, _, _, _, _, _, h⟩
  · omega
  · exact h
section
variable (idv : Int) (rv av : Nat → Value) (P : Pl) (Z : List (Nat × Obj)) (hN : NetR rv av P Z) (hP : POk P) (p : Option Addr) (cap : Nat) (cs : List Ch) (Ec : List (Nat × Obj)) (hR : Row (.slice p cs.length cap) cs.length (chs cs) 12 57 Ec) (hEc : ∀ x, x ∈ Ec → x ∈ Z) (hok : ∀ c, c ∈ cs → c.ok) (hlen : cs.length ≤ 1000000)
include hR hok hlen
theorem check_yes (hchk : chk cs) : SpK Try.prog 11 #[.agg ⟨[.int .u32 idv, .slice p cs.length cap]⟩] (Mem Ec) [] (fun u F' => u = .nilIface ∧ F' = []) := by
  refine spK_post (check_ro idv p cap cs Ec hR hok hlen) (fun _ h => h) ?_
  rintro v F' (⟨_, rfl, rfl⟩ | ⟨h, _⟩)
  · exact ⟨[], [], ⟨rfl, rfl⟩, List.Perm.refl _⟩
  · exact absurd hchk h
include hN hP hEc
theorem ap_ok {P' : Pl} {us : List Ch} (hchk : chk cs) (hst : steps P cs = (P', us, 0)) : SpK Try.prog 18 #[.agg ⟨arrL 64 (nvF rv av P)⟩, .agg ⟨[.int .u32 idv, .slice p cs.length cap]⟩] (Mem Z) []
    (fun u F' => ∃ rv' av', POk P' ∧ NetR rv' av' P' (Z ++ F') ∧ u = .tuple #[.agg ⟨arrL 64 (nvF rv' av' P')⟩, .nilIface]) := by
  refine spK_post (apply_spec idv rv av P Z hN hP p cap cs Ec hR hEc hok hlen) (fun _ h => h) ?_
  rintro v F' (⟨P2, us2, rv', av', _, h2, h3, h4, rfl⟩ | ⟨k, code, pos, hb, _⟩)
  · have := steps_fun h2 hst
    subst this
    exact ⟨F', [], ⟨rv', av', h3, h4, rfl⟩, by simp⟩
  · exact (ok_not_bad hchk hst hb).elim
theorem ap_bad (hno : ∀ P' us, steps P cs ≠ (P', us, 0)) : SpK Try.prog 18 #[.agg ⟨arrL 64 (nvF rv av P)⟩, .agg ⟨[.int .u32 idv, .slice p cs.length cap]⟩] (Mem Z) []
    (fun u F' => ∃ (k : Nat) (code pos : Int), RunBad P cs code pos ∧ u = .tuple #[.agg ⟨arrL 64 (nvF rv av P)⟩, .iface 77 (.pointer (some ⟨k, 0, none⟩))] ∧ F' = [(k, C [.int .u8 code, .int .i64 pos] 79)]) := by
  refine spK_post (apply_spec idv rv av P Z hN hP p cap cs Ec hR hEc hok hlen) (fun _ h => h) ?_
  rintro v F' (⟨P2, us2, rv', av', _, h2, h3, h4, rfl⟩ | h)
  · exact absurd h2 (hno P2 us2)
  · exact ⟨F', [], h, by simp⟩
theorem inv_ok9 {P' : Pl} {us : List Ch} (hchk : chk cs) (hst : steps P cs = (P', us, 0)) : SpK Try.prog 19 #[.agg ⟨arrL 64 (nvF rv av P)⟩, .agg ⟨[.int .u32 idv, .slice p cs.length cap]⟩] (Mem Z) []
    (fun u F' => ∃ q qc, Row (.slice q us.reverse.length qc) us.reverse.length (chs us.reverse) 12 57 F' ∧ u = .tuple #[.agg ⟨[.int .u32 idv, .slice q us.reverse.length qc]⟩, .nilIface]) := by
  refine spK_post (inverse_spec idv rv av P Z hN hP p cap cs Ec hR hEc hok hlen) (fun _ h => h) ?_
  rintro v F' (⟨P2, us2, uv, _, h2, _, _, h5, rfl⟩ | ⟨k, code, pos, hb, _⟩)
  · rw [hst] at h2
    injection h2 with e1 e2
    injection e2 with e2 _
    subst e2
    obtain ⟨q, qc, rfl⟩ := row_val h5
    refine ⟨F', [], ⟨q, qc, ?_, ?_⟩, by simp⟩
    · rw [List.length_reverse]; exact h5
    · rw [List.length_reverse]
  · exact (ok_not_bad hchk hst hb).elim
end
section
variable (idv : Int) (kn : Nat) (N : Nw) (P : Pl) (Z : List (Nat × Obj)) (hZ : NetM kn N P Z) (hP : POk P) (p : Option Addr) (cap : Nat) (cs : List Ch) (Ec : List (Nat × Obj)) (hR : Row (.slice p cs.length cap) cs.length (chs cs) 12 57 Ec) (hEc : ∀ x, x ∈ Ec → x ∈ Z) (hok : ∀ c, c ∈ cs → c.ok) (hchk : chk cs)
include hZ hP hR hEc hok hchk
theorem mp_ok {P' : Pl} {us : List Ch} (hst : steps P cs = (P', us, 0)) : SpK Try.prog 29 #[.pointer (some ⟨kn, 0, none⟩), .agg ⟨[.int .u32 idv, .slice p cs.length cap]⟩] (Mem Z) []
    (fun u F' => ∃ kn' N' q qc Eu, POk P' ∧ NetM kn' N' P' F' ∧ Row (.slice q us.reverse.length qc) us.reverse.length (chs us.reverse) 12 57 Eu ∧ (∀ x, x ∈ Eu → x ∈ F') ∧ (∀ c, c ∈ us.reverse → c.ok) ∧ us.reverse.length ≤ 1000000 ∧ u = .tuple #[.pointer (some ⟨kn', 0, none⟩), .agg ⟨[.int .u32 idv, .slice q us.reverse.length qc]⟩, .int .i64 (-1), .int .u8 0]) := by
  refine spK_post (applyM idv kn N P Z hZ hP p cap cs Ec hR hEc hok hchk) (fun _ h => h) ?_
  rintro v F' (⟨kn', N', P2, us2, uv, Eu, f, h2, h3, h4, h5, h6, h7, h8, rfl, rfl⟩ | ⟨i, c, P1, us1, h1, h2, h3, _⟩)
  · rw [hst] at h2
    injection h2 with e1 e2
    injection e2 with e2 _
    subst e1
    subst e2
    obtain ⟨q, qc, rfl⟩ := row_val h8
    have h128 := hchk.1
    refine ⟨_, [], ⟨kn', N', q, qc, Eu, h5, (own_net h6 h7).mono (fun x hx => ?_), ?_, fun x hx => ?_, fun c hc => h4 c (List.mem_reverse.1 hc), by rw [List.length_reverse]; omega, ?_⟩, List.Perm.of_eq (List.append_nil _).symm⟩
    · unfold OwnM at hx
      rcases List.mem_cons.1 hx with hx | hx
      · rw [hx]; exact List.mem_cons_self
      · exact List.mem_cons_of_mem _ (List.mem_append_right _ hx)
    · rw [List.length_reverse]; exact h8
    · exact List.mem_cons_of_mem _ (List.mem_append_left _ hx)
    · rw [List.length_reverse]
  · exact (ok_not_bad hchk hst (.inr ⟨hchk, i, c, P1, us1, rfl, h1, h2, rfl, h3⟩)).elim
theorem mp_bad {code pos : Int} (hb : RunBad P cs code pos) : SpK Try.prog 29 #[.pointer (some ⟨kn, 0, none⟩), .agg ⟨[.int .u32 idv, .slice p cs.length cap]⟩] (Mem Z) []
    (fun u F' => u = .tuple #[.pointer (some ⟨kn, 0, none⟩), .agg ⟨[.int .u32 0, .slice none 0 0]⟩, .int .i64 pos, .int .u8 code] ∧ F' = []) := by
  refine spK_post (applyM idv kn N P Z hZ hP p cap cs Ec hR hEc hok hchk) (fun _ h => h) ?_
  rintro v F' (⟨kn', N', P2, us2, uv, Eu, f, h2, _⟩ | ⟨i, c, P1, us1, h1, h2, h3, rfl, rfl⟩)
  · exact (ok_not_bad hchk h2 hb).elim
  · obtain ⟨e1, e2⟩ := bad_uniq hchk hb h1 h2 h3
    rw [e1, e2]
    exact ⟨[], [], ⟨rfl, rfl⟩, List.Perm.refl _⟩
end
def EaR (P : Pl) (cs : List Ch) (Z : List (Nat × Obj)) (mc : Nat) (u : Value) (F' : List (Nat × Obj)) : Prop :=
  u = .bool true ∧ ∃ km' N' P' Fz, F' = (mc, C [.pointer (some ⟨km', 0, none⟩)] 71) :: Fz ∧ NetM km' N' P' (Z ++ Fz) ∧ ((∃ us, chk cs ∧ steps P cs = (P', us, 0)) ∨ (P' = P ∧ ∀ P2 us, chk cs → steps P cs ≠ (P2, us, 0)))

end Go.Proofs.Qxb6500907a

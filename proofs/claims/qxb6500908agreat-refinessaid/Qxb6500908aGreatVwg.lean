import Derived.Test.Qxb6500908aGreatEng
import Derived.Test.Qxb6500908aGreatVw
set_option linter.unusedVariables false
set_option linter.unusedSimpArgs false
namespace Go.Eng
section vwg
variable {P : Program} {n : Nat} {L : List (Nat × Value)} {a : Act} {w : World} {x y : Operand} {T : TypeId} {pos : String} {aft : Array Edge} {g : Option (Nat × Bool)} {dst : Option Nat}
variable {ops : Array Oper} {Q : Exit → Act → World → Prop} {K : Act → World → Prop} {D : List Nat} {w0 : World} {F G : List (Nat × Obj)}
/-- a stretch of a row that lies in blocks of whatever kind, which are only read -/
def VwG (size : Nat) (y : Value) (m : Nat) (news : List Value) (Z : List (Nat × Obj)) : Prop :=
  (m = 0 ∧ news = [] ∧ ∃ p c, y = .slice p 0 c) ∨ ∃ b o c l T fr, 0 < m ∧ y = .slice (some ⟨b, o, none⟩) m c ∧ m ≤ c ∧ (b, Obj.cells ⟨l⟩ T fr) ∈ Z ∧ (l.drop o).take news.length = news ∧ news.length = m * size
theorem VwG.mono {size : Nat} {y : Value} {m : Nat} {news : List Value} {Z Z' : List (Nat × Obj)} (h : VwG size y m news Z) (hz : ∀ x, x ∈ Z → x ∈ Z') : VwG size y m news Z' := by
  rcases h with h | ⟨b, o, c, l, T, fr, h1, h2, h3, h4, h5⟩
  · exact .inl h
  · exact .inr ⟨b, o, c, l, T, fr, h1, h2, h3, hz _ h4, h5⟩
theorem VwG.sl {size : Nat} {y : Value} {m : Nat} {news : List Value} {Z : List (Nat × Obj)} (h : VwG size y m news Z) : ∃ p c, y = .slice p m c := by
  rcases h with ⟨rfl, _, p, c, rfl⟩ | ⟨b, o, c, l, T, fr, _, rfl, _⟩
  · exact ⟨p, c, rfl⟩
  · exact ⟨_, c, rfl⟩
theorem VwG.of {v : Value} {cnt size : Nat} {xs : List Value} {e : TypeId} {E : List (Nat × Obj)} (h : Row v cnt xs size e E) : VwG size v cnt xs E := by
  rcases h with ⟨rfl, rfl, rfl, rfl⟩ | ⟨b, cap, junk, rfl, h1, h2, h3, rfl⟩
  · exact .inl ⟨rfl, rfl, none, 0, rfl⟩
  · by_cases c : cnt = 0
    · subst c
      have : xs = [] := by rw [Nat.zero_mul] at h1; exact List.eq_nil_of_length_eq_zero h1
      exact .inl ⟨rfl, this, _, cap, rfl⟩
    · exact .inr ⟨b, 0, cap, xs ++ junk, e, (0, 0), by omega, rfl, h3, by simp [C], by rw [List.drop_zero]; simp, h1⟩
/-- append(x, y...): x a row of ours, y a stretch that is only read -/
theorem w_appendG {d : Nat} {t e size bytes cnt m : Nat} {v yv : Value} {xs news : List Value} {E Z : List (Nat × Obj)} (hl : Sl n L a) (hh : Has D w0 F w) (hd : Nat.blt d n = true) (hg : GuardOk ops L g) (ht : appOk P t e size bytes = true) (hs0 : Nat.blt 0 size = true)
    (hx : val L x = some v) (hy : val L y = some yv) (hR : Row v cnt xs size e E) (hp : Keeps F E G) (hV : VwG size yv m news Z) (hZ : Mem Z w) (h1 : news.all (·.oneCell') = true) (hb : (cnt + m) * bytes ≤ 70368744177664) (hb2 : cnt + m ≤ 4611686018427387904) (hby : bytes ≤ 4294967296)
    (k : ∀ v' E' a' w', Row v' (cnt + m) (xs ++ news) size e E' → Sl n ((d, v') :: L) a' → Has D w0 (E' ++ G) w' → K a' w') :
    OpW P ops Q ⟨some d, .call { callee := .builtin .append, args := #[x, y], argTypes := #[t, t] }, T, pos, aft, g⟩ K a w := by
  rcases hV with ⟨rfl, rfl, p, c, rfl⟩ | ⟨b, o, c, l, Tb, fr, h0, rfl, h3, h4, h5, h6⟩
  · have hR2 := hR
    rcases hR with ⟨rfl, rfl, rfl, rfl⟩ | ⟨b, cap, junk, rfl, h2, h3, h4, rfl⟩
    · exact wl_val hl hd hg (r_appendNil0 hl hx hy ht) fun a' hl' => k _ [] a' w (Row.nil _ _) hl' (hh.perm hp.perm)
    · exact wl_val hl hd hg (r_append0g hl hx hy ht h4 (fun q => by cases q) (fun q e => by cases e; rfl)) fun a' hl' => k _ _ a' w (by rw [List.append_nil]; exact hR2) hl' (hh.perm hp.perm)
  · exact w_append (news := news) hl hh hd hg ht hs0 hx hy hR hp (hZ _ _ h4) h5 h6 h1 h0 hb hb2 hby k
end vwg
end Go.Eng

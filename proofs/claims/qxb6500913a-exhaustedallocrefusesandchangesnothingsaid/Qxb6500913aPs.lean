import Derived.Test.Qxb6500913aMap
import Derived.Test.Qxb6500913aArr
import Derived.Test.Qxb6500913aPl
namespace Go.Proofs.Qxb6500913a
open Go.Eng
set_option linter.unusedVariables false
set_option linter.unusedSimpArgs false

attribute [local irreducible] encL

theorem ref_parts {g x r0 : Nat} (hx : x < 4096) (h : r0 = (g + 1) * 65536 + x) : r0 % 65536 = x ∧ r0 / 65536 = g + 1 := by omega
set_option maxRecDepth 20000 in
theorem zero62 : zeroOk Try.prog 62 (.agg ⟨arrL 4096 (fun _ => .bool false)⟩) := by unfold zeroOk; kernel_rfl
/-- the sizes of the live nodes -/
structure J6 (f : Nat → Int) (l : List (Int × Value)) : Prop where
  at_ : ∀ r : Nat, judgeF f r = 0 → (mget l (r : Int)).getD (.int .i64 0) = .int .i64 (sz f (r % 65536))
theorem J6.start (G : Int) (h0 : 0 ≤ G) (h1 : G ≤ 281474976710655) : J6 (initF G) [] := ⟨fun r h => by
  exfalso
  have ha := judge_addr h
  have hf : fresh (initF G) = 2 := by unfold fresh; rw [initF_at, if_neg (by omega), if_pos (by omega)]
  have hu := (inv_init G h0 h1).unt (r % 65536) ha.2 (by rw [hf]; omega)
  have := (judge_live h).1
  omega⟩
theorem J6.same {f f' : Nat → Int} {l : List (Int × Value)} (h : J6 f l) (e : SameBut f f') : J6 f' l := ⟨fun r hr => by
  rw [judge_same e] at hr
  rw [h.at_ r hr, e.sz _ (judge_addr hr).2]⟩
theorem J6.alloc {f f' : Nat → Int} {fl fl' : Nat → List Nat} {l : List (Int × Value)} {x s r0 : Nat} (h : J6 f l) (e : AllocOk f f' fl fl' x s) (hr0 : r0 = ((gen f x).toNat + 1) * 65536 + x) : J6 f' (mput l (r0 : Int) (.int .i64 s)) := ⟨fun r hr => by
  have hx := e.xs
  have hs := e.s1
  obtain ⟨p1, p2⟩ := ref_parts (by omega) hr0
  rw [mget_mput]
  by_cases c : r = r0
  · rw [if_pos (by omega), c, p1, e.szz x (by omega), if_pos rfl]; rfl
  · rw [judge_alloc e hr0, if_neg c] at hr
    have hl := (judge_live hr).1
    have hn := (e.cells x (by omega) (by omega)).2.1
    have hne : r % 65536 ≠ x := by intro q; rw [q] at hl; exact hn hl
    rw [if_neg (by omega), e.szz _ (judge_addr hr).2, if_neg hne]
    exact h.at_ r hr⟩
theorem J6.free {f f' : Nat → Int} {fl fl' : Nat → List Nat} {l : List (Int × Value)} {s r0 : Nat} (h : J6 f l) (hj : judgeF f r0 = 0) (e : FreeOk f f' fl fl' (r0 % 65536) s) : J6 f' l := ⟨fun r hr => by
  rw [judge_free hj e] at hr
  by_cases c : r = r0
  · rw [if_pos c] at hr; cases hr
  · rw [if_neg c] at hr
    rw [e.szz _ (judge_addr hr).2]
    exact h.at_ r hr⟩

end Go.Proofs.Qxb6500913a

import Derived.Test.Qxb6500908aGreatEng
import Derived.Test.Qxb6500908aGreatStr
import Derived.Test.Qxb6500908aGreatByt
set_option linter.unusedVariables false
set_option linter.unusedSimpArgs false
namespace Go.Eng
section ifi
variable {P : Program} {n : Nat} {L : List (Nat × Value)} {a : Act} {w : World} {T : TypeId} {pos : String} {aft : Array Edge} {g : Option (Nat × Bool)} {dst : Option Nat} {x y : Operand}
def intCmp (P : Program) (tp : TypeId) : Bool := match P.info? tp, P.underlying tp with
  | some i, some (.int .u8) => i.comparable
  | _, _ => false
theorem run_eq_ifcI {t tp : TypeId} {i j : Int} (ht : ifcT P t = true) (hp : intCmp P tp = true) : (Op.equal t (.iface tp (.int .u8 i)) (.iface tp (.int .u8 j))).run P w = .ok (decide (i = j)) w := by
  unfold intCmp at hp
  split at hp
  · rename_i inf hi hu
    unfold ifcT at ht
    split at ht
    · rename_i ms hm
      unfold Op.equal
      show (Op.equalIn (9998 + 1 + 1) t _ _).run P w = _
      unfold Op.equalIn
      simp only [Sem.run_bind, run_underlying hm, Result.andThen_ok, ne_eq, not_true_eq_false, if_false, typeInfo, hi]
      unfold Op.equalIn
      simp [run_underlying hu, typeInfo, hi, hp]
      by_cases e : i = j
      · subst e; simp
      · rw [decide_eq_false e]; exact beq_eq_false_iff_ne.2 e
    · cases ht
  · cases hp
/-- the same type of number in two interface values -/
theorem r_eql_ifcI {t u tp : TypeId} {i j : Int} (hl : Sl n L a) (hx : val L x = some (.iface tp (.int .u8 i))) (hy : val L y = some (.iface tp (.int .u8 j))) (ht : ifcT P t = true) (hp : intCmp P tp = true) : Gives P a ⟨dst, .binOp .eql t x y u, T, pos, aft, g⟩ w (.bool (decide (i = j))) w := by
  simp [Gives, execOp, hl.ev hx, hl.ev hy, eqGuard, binOp, run_eq_ifcI ht hp]
end ifi
end Go.Eng

import Derived.Test.Qxb6500908aGreatEng
set_option linter.unusedVariables false
set_option linter.unusedSimpArgs false
namespace Go.Eng
theorem wm_u8 (x : Int) : IntKind.u8.wrap x = x % 256 := by simp [IntKind.wrap, IntKind.bits, IntKind.signed]
theorem wm_u16 (x : Int) : IntKind.u16.wrap x = x % 65536 := by simp [IntKind.wrap, IntKind.bits, IntKind.signed]
theorem wm_u32 (x : Int) : IntKind.u32.wrap x = x % 4294967296 := by simp [IntKind.wrap, IntKind.bits, IntKind.signed]
theorem wm_u64 (x : Int) : IntKind.u64.wrap x = x % 18446744073709551616 := by simp [IntKind.wrap, IntKind.bits, IntKind.signed]
section umd
variable {P : Program} {n : Nat} {L : List (Nat × Value)} {a : Act} {w : World} {T : TypeId} {pos : String} {aft : Array Edge} {g : Option (Nat × Bool)} {dst : Option Nat} {dfs : List Deferred} {x y : Operand} {t u : TypeId} {k : IntKind} {i j m : Int}
theorem r_addM (hm : ∀ x, k.wrap x = x % m) (hl : SlD dfs n L a) (hx : val L x = some (.int k i)) (hy : val L y = some (.int k j)) : Gives P a ⟨dst, .binOp .add t x y u, T, pos, aft, g⟩ w (.int k ((i + j) % m)) w := by
  rw [← hm]; exact r_addW hl hx hy
theorem r_subM (hm : ∀ x, k.wrap x = x % m) (hl : SlD dfs n L a) (hx : val L x = some (.int k i)) (hy : val L y = some (.int k j)) : Gives P a ⟨dst, .binOp .sub t x y u, T, pos, aft, g⟩ w (.int k ((i - j) % m)) w := by
  rw [← hm]; exact r_subW hl hx hy
theorem r_mulM (hm : ∀ x, k.wrap x = x % m) (hl : SlD dfs n L a) (hx : val L x = some (.int k i)) (hy : val L y = some (.int k j)) : Gives P a ⟨dst, .binOp .mul t x y u, T, pos, aft, g⟩ w (.int k ((i * j) % m)) w := by
  rw [← hm]; exact r_mulW hl hx hy
theorem r_convM {s d : TypeId} {k' : IntKind} {ds : TypeDesc} (hm : ∀ x, k'.wrap x = x % m) (hl : SlD dfs n L a) (hx : val L x = some (.int k i)) (hs : P.underlying s = some ds) (hd : P.underlying d = some (.int k')) :
    Gives P a ⟨dst, .convert s d x, T, pos, aft, g⟩ w (.int k' (i % m)) w := by
  rw [← hm]; exact r_convW hl hx hs hd
theorem r_minI {ts : Array TypeId} (hl : SlD dfs n L a) (hx : val L x = some (.int k i)) (hy : val L y = some (.int k j)) :
    Gives P a ⟨dst, .call { callee := .builtin .min, args := #[x, y], argTypes := ts }, T, pos, aft, g⟩ w (.int k (min i j)) w := by
  by_cases c : j < i
  · rw [show min i j = j by omega]
    simp [Gives, execOp, resolve, invoke, builtin, hl.ev hx, hl.ev hy, Builtin.min_, Builtin.min2, c]
  · rw [show min i j = i by omega]
    simp [Gives, execOp, resolve, invoke, builtin, hl.ev hx, hl.ev hy, Builtin.min_, Builtin.min2, c]
theorem r_maxI {ts : Array TypeId} (hl : SlD dfs n L a) (hx : val L x = some (.int k i)) (hy : val L y = some (.int k j)) :
    Gives P a ⟨dst, .call { callee := .builtin .max, args := #[x, y], argTypes := ts }, T, pos, aft, g⟩ w (.int k (max i j)) w := by
  by_cases c : i < j
  · rw [show max i j = j by omega]
    simp [Gives, execOp, resolve, invoke, builtin, hl.ev hx, hl.ev hy, Builtin.max_, Builtin.max2, c]
  · rw [show max i j = i by omega]
    simp [Gives, execOp, resolve, invoke, builtin, hl.ev hx, hl.ev hy, Builtin.max_, Builtin.max2, c]
theorem r_minI3 {ts : Array TypeId} {z : Operand} {l : Int} (hl : SlD dfs n L a) (hx : val L x = some (.int k i)) (hy : val L y = some (.int k j)) (hz : val L z = some (.int k l)) :
    Gives P a ⟨dst, .call { callee := .builtin .min, args := #[x, y, z], argTypes := ts }, T, pos, aft, g⟩ w (.int k (min (min i j) l)) w := by
  by_cases c : j < i
  · rw [show min i j = j by omega]
    by_cases c2 : l < j
    · rw [show min j l = l by omega]
      simp [Gives, execOp, resolve, invoke, builtin, hl.ev hx, hl.ev hy, hl.ev hz, Builtin.min_, Builtin.min2, c, c2]
    · rw [show min j l = j by omega]
      simp [Gives, execOp, resolve, invoke, builtin, hl.ev hx, hl.ev hy, hl.ev hz, Builtin.min_, Builtin.min2, c, c2]
  · rw [show min i j = i by omega]
    by_cases c2 : l < i
    · rw [show min i l = l by omega]
      simp [Gives, execOp, resolve, invoke, builtin, hl.ev hx, hl.ev hy, hl.ev hz, Builtin.min_, Builtin.min2, c, c2]
    · rw [show min i l = i by omega]
      simp [Gives, execOp, resolve, invoke, builtin, hl.ev hx, hl.ev hy, hl.ev hz, Builtin.min_, Builtin.min2, c, c2]
theorem r_addE {l : Int} (hl : SlD dfs n L a) (hx : val L x = some (.int k i)) (hy : val L y = some (.int k j)) (e : i + j = l) (hf : Fits k l) : Gives P a ⟨dst, .binOp .add t x y u, T, pos, aft, g⟩ w (.int k l) w := by
  subst e; exact r_add hl hx hy hf
end umd
end Go.Eng

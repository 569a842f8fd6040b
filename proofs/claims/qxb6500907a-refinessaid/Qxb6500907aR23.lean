import Derived.Test.Qxb6500907aR22
import Derived.Test.Qxb6500907aMdl
import Derived.KernelRfl
namespace Go.Proofs.Qxb6500907a
open Go.Eng
set_option linter.unusedVariables false
set_option linter.unusedSimpArgs false

/-! ## the model's tables in memory -/
abbrev PK := Fin 256 × Fin 256
def pkc (a : PK) : List Value := [.int .u8 ((a.1.1 : Nat) : Int), .int .u8 ((a.2.1 : Nat) : Int)]
def pkV (a : PK) : Value := .agg ⟨pkc a⟩
theorem cells51k : (2 : Nat) = Try.prog.cellsOf 51 := by kernel_rfl
theorem keyPK : KeyD Try.prog 51 pkV := by
  refine KeyD.wide (fun a : PK => pkc a) (fun a : PK => [.int .u8 ((a.1.1 : Nat) : Int), .int .u8 ((a.2.1 : Nat) : Int)]) eqf51 shp51 (fun a => rfl) (fun a => rfl) (fun a => ?_) (fun a b h => ?_) (fun a => ?_) (fun a => ?_)
  · have h1 := a.1.2
    have h2 := a.2.2
    refine ⟨?_⟩
    simp [LitsOk, litOk, Fits]
    omega
  · injection h with h1 h2
    injection h2 with h2 _
    injection h1 with _ h1
    injection h2 with _ h2
    obtain ⟨a1, a2⟩ := a
    obtain ⟨b1, b2⟩ := b
    simp only at h1 h2
    have e1 : a1 = b1 := Fin.ext (by omega)
    have e2 : a2 = b2 := Fin.ext (by omega)
    rw [e1, e2]
  · have h1 := a.1.2
    have h2 := a.2.2
    simp [Value.formed, pkc]
    exact cells51k
  · simp [pkV, pkc, Instr.sameBits]
structure Mt where
  rs : Nat → List (ME PK)
  nb : Nat → Nat
  al : Nat → List Rl
  ifc : Nat → Nat → Bool
  lk : Nat → Nat → Bool
/-- the cells of a model network -/
def nmC (mb : Nat → Value) (av : Nat → Value) (ifc lk : Nat → Nat → Bool) : Nat → Value := fun j =>
  if j < 16 then mb j else if j < 32 then av (j - 16) else if j < 288 then .bool (ifc ((j - 32) / 16) ((j - 32) % 16)) else .bool (lk ((j - 288) / 16) ((j - 288) % 16))
theorem nm_mb {mb : Nat → Value} {av : Nat → Value} {ifc lk : Nat → Nat → Bool} {d : Nat} (h : d < 16) : (arrL 544 (nmC mb av ifc lk))[0 + 0 + d * 1]? = some (mb d) := by
  rw [arrL_get (by omega)]; unfold nmC; rw [if_pos (by omega), show 0 + 0 + d * 1 = d by omega]
theorem nm_av {mb : Nat → Value} {av : Nat → Value} {ifc lk : Nat → Nat → Bool} {d : Nat} (h : d < 16) : (arrL 544 (nmC mb av ifc lk))[0 + 16 + d * 1]? = some (av d) := by
  rw [arrL_get (by omega)]; unfold nmC; rw [if_neg (by omega), if_pos (by omega), show 0 + 16 + d * 1 - 16 = d by omega]
theorem nm_if {mb : Nat → Value} {av : Nat → Value} {ifc lk : Nat → Nat → Bool} {d p : Nat} (h : d < 16) (hp : p < 16) : (arrL 544 (nmC mb av ifc lk))[0 + 32 + d * 16 + p * 1]? = some (.bool (ifc d p)) := by
  rw [arrL_get (by omega)]; unfold nmC; rw [if_neg (by omega), if_neg (by omega), if_pos (by omega), show (0 + 32 + d * 16 + p * 1 - 32) / 16 = d by omega, show (0 + 32 + d * 16 + p * 1 - 32) % 16 = p by omega]
theorem nm_lk {mb : Nat → Value} {av : Nat → Value} {ifc lk : Nat → Nat → Bool} {d p : Nat} (h : d < 16) (hp : p < 16) : (arrL 544 (nmC mb av ifc lk))[0 + 288 + d * 16 + p * 1]? = some (.bool (lk d p)) := by
  rw [arrL_get (by omega)]; unfold nmC; rw [if_neg (by omega), if_neg (by omega), if_neg (by omega), show (0 + 288 + d * 16 + p * 1 - 288) / 16 = d by omega, show (0 + 288 + d * 16 + p * 1 - 288) % 16 = p by omega]
def upd2 (f : Nat → Nat → Bool) (d p : Nat) (v : Bool) : Nat → Nat → Bool := fun i j => if i = d ∧ j = p then v else f i j
theorem arr_ext {n : Nat} {f g : Nat → Value} (h : ∀ i, i < n → f i = g i) : arrL n f = arrL n g := by
  unfold arrL
  exact List.map_congr_left fun i hi => h i (List.mem_range.1 hi)
theorem nm_smb {mb : Nat → Value} {av : Nat → Value} {ifc lk : Nat → Nat → Bool} {d : Nat} {b : Value} (h : d < 16) : setL (arrL 544 (nmC mb av ifc lk)) (0 + 0 + d * 1) [b] = arrL 544 (nmC (upd mb d b) av ifc lk) := by
  rw [arrL_set (by omega)]
  refine arr_ext fun i hi => ?_
  unfold updV nmC
  by_cases e : i = d
  · rw [if_pos (by omega), if_pos (by omega), e, upd_same]
  · rw [if_neg (by omega), upd_other mb b e]
theorem nm_sav {mb : Nat → Value} {av : Nat → Value} {ifc lk : Nat → Nat → Bool} {d : Nat} {v : Value} (h : d < 16) : setL (arrL 544 (nmC mb av ifc lk)) (0 + 16 + d * 1) [v] = arrL 544 (nmC mb (upd av d v) ifc lk) := by
  rw [arrL_set (by omega)]
  refine arr_ext fun i hi => ?_
  unfold updV nmC
  by_cases e : i = 0 + 16 + d * 1
  · rw [if_pos e, if_neg (by omega), if_pos (by omega), show i - 16 = d by omega, upd_same]
  · rw [if_neg e]
    by_cases c1 : i < 16
    · rw [if_pos c1, if_pos c1]
    rw [if_neg c1, if_neg c1]
    by_cases c2 : i < 32
    · rw [if_pos c2, if_pos c2, upd_other av v (by omega)]
    · rw [if_neg c2, if_neg c2]
theorem nm_sif {mb : Nat → Value} {av : Nat → Value} {ifc lk : Nat → Nat → Bool} {d p : Nat} {v : Bool} (h : d < 16) (hp : p < 16) : setL (arrL 544 (nmC mb av ifc lk)) (0 + 32 + d * 16 + p * 1) [.bool v] = arrL 544 (nmC mb av (upd2 ifc d p v) lk) := by
  rw [arrL_set (by omega)]
  refine arr_ext fun i hi => ?_
  unfold updV nmC upd2
  by_cases c1 : i < 16
  · rw [if_neg (by omega), if_pos c1, if_pos c1]
  rw [if_neg c1, if_neg c1]
  by_cases c2 : i < 32
  · rw [if_neg (by omega), if_pos c2, if_pos c2]
  rw [if_neg c2, if_neg c2]
  by_cases c3 : i < 288
  · rw [if_pos c3, if_pos c3]
    by_cases e : i = 0 + 32 + d * 16 + p * 1
    · rw [if_pos e, if_pos (by omega)]
    · rw [if_neg e, if_neg (by omega)]
  · rw [if_neg (by omega), if_neg c3, if_neg c3]
theorem nm_slk {mb : Nat → Value} {av : Nat → Value} {ifc lk : Nat → Nat → Bool} {d p : Nat} {v : Bool} (h : d < 16) (hp : p < 16) : setL (arrL 544 (nmC mb av ifc lk)) (0 + 288 + d * 16 + p * 1) [.bool v] = arrL 544 (nmC mb av ifc (upd2 lk d p v)) := by
  rw [arrL_set (by omega)]
  refine arr_ext fun i hi => ?_
  unfold updV nmC upd2
  by_cases c1 : i < 16
  · rw [if_neg (by omega), if_pos c1, if_pos c1]
  rw [if_neg c1, if_neg c1]
  by_cases c2 : i < 32
  · rw [if_neg (by omega), if_pos c2, if_pos c2]
  rw [if_neg c2, if_neg c2]
  by_cases c3 : i < 288
  · rw [if_neg (by omega), if_pos c3, if_pos c3]
  · rw [if_neg c3, if_neg c3]
    by_cases e : i = 0 + 288 + d * 16 + p * 1
    · rw [if_pos e, if_pos (by omega)]
    · rw [if_neg e, if_neg (by omega)]

def mvF (mb : Nat → Nat) : Nat → Value := fun d => .map (some (mb d))
def noB : Nat → Nat → Bool := fun _ _ => false
def nilM : Nat → Value := fun _ => .map none
theorem zero116 : zeroOk Try.prog 116 (.agg ⟨arrL 544 (nmC nilM nilV noB noB)⟩) := by unfold zeroOk arrL; kernel_rfl
theorem fill116 : fillL [(0, 16), (16, 16), (32, 256), (288, 256)] (arrL 544 (nmC nilM nilV noB noB)) [] = some (arrL 544 (nmC nilM nilV noB noB)) := rfl
def mpB (mb : Nat → Nat) (rs : Nat → List (ME PK)) (nb : Nat → Nat) (n : Nat) : List (Nat × Obj) := (List.range n).map fun d => (mb d, MD pkV (rs d) (nb d))
theorem mpB_succ (mb : Nat → Nat) (rs : Nat → List (ME PK)) (nb : Nat → Nat) (n b : Nat) (l : List (ME PK)) (m : Nat) : mpB (upd mb n b) (upd rs n l) (upd nb n m) (n + 1) = mpB mb rs nb n ++ [(b, MD pkV l m)] := by
  unfold mpB
  rw [List.range_succ, List.map_append, List.map_singleton, upd_same, upd_same, upd_same]
  congr 1
  refine List.map_congr_left fun i hi => ?_
  have := List.mem_range.1 hi
  rw [upd_other mb b (by omega), upd_other rs l (by omega), upd_other nb m (by omega)]
def mvI (mb : Nat → Nat) (i : Nat) : Nat → Value := fun d => if d < i then .map (some (mb d)) else .map none
theorem mvI_next (mb : Nat → Nat) (i b : Nat) : upd (mvI mb i) i (.map (some b)) = mvI (upd mb i b) (i + 1) := by
  funext d
  by_cases e : d = i
  · rw [e, upd_same]; unfold mvI; rw [if_pos (by omega), upd_same]
  · rw [upd_other _ _ e]; unfold mvI
    rw [upd_other mb b e]
    by_cases h : d < i
    · rw [if_pos h, if_pos (by omega)]
    · rw [if_neg h, if_neg (by omega)]
theorem mvI_done (mb : Nat → Nat) (av : Nat → Value) (ifc lk : Nat → Nat → Bool) : arrL 544 (nmC (mvI mb 16) av ifc lk) = arrL 544 (nmC (mvF mb) av ifc lk) := by
  refine arr_ext fun i hi => ?_
  unfold nmC mvI mvF
  by_cases h : i < 16
  · rw [if_pos h, if_pos h, if_pos h]
  · rw [if_neg h, if_neg h]
theorem mvI_zero : mvI (fun _ => 0) 0 = nilM := by funext d; unfold mvI nilM; rw [if_neg (by omega)]
theorem mpB_upd (mb : Nat → Nat) (n b : Nat) : mpB (upd mb n b) (fun _ => []) (fun _ => 0) (n + 1) = mpB mb (fun _ => []) (fun _ => 0) n ++ [(b, MD pkV [] 0)] := by
  have := mpB_succ mb (fun _ => []) (fun _ => 0) n b [] 0
  rw [upd_self (fun _ => ([] : List (ME PK))) n, upd_self (fun _ => 0) n] at this
  exact this

end Go.Proofs.Qxb6500907a

import Derived.Test.Qxb6500911aDoorA29
import Derived.Test.Qxb6500911aDoorA28
import Derived.Test.Qxb6500911aDoorMrg
namespace Go.Proofs.Qxb6500911aDoor
open Go.Eng
set_option linter.unusedVariables false
set_option linter.unusedSimpArgs false
theorem shp57 : shapeT Tryd.prog 8 57 = some [.int .i64, .int .u64] := by kernel_rfl
theorem eqf57 : eqOk Tryd.prog 8 57 = true := by kernel_rfl
open Go.Eng (mget mput mfind KeyOk MO mget_mput)

/-! ## the history of waits, kept in two maps -/
abbrev HK := Fin 16 × BitVec 64
def k57 (a : HK) : Value := .agg ⟨[.int .i64 ((a.1.1 : Nat) : Int), .int .u64 ((a.2.toNat : Nat) : Int)]⟩
theorem key57 : KeyOk Tryd.prog 57 k57 := by
  refine KeyOk.wide (fun a : HK => [.int .i64 ((a.1.1 : Nat) : Int), .int .u64 ((a.2.toNat : Nat) : Int)]) (fun a : HK => [.int .i64 ((a.1.1 : Nat) : Int), .int .u64 ((a.2.toNat : Nat) : Int)]) eqf57 shp57 (fun a => rfl) (fun a => rfl) (fun a => ?_) (fun a b h => ?_) (fun a => ?_) (fun a => ?_)
  · have h1 := a.1.2; have h2 := a.2.isLt
    refine ⟨?_⟩
    simp [LitsOk, litOk, Fits]
    omega
  · obtain ⟨⟨a1, ha⟩, a2⟩ := a
    obtain ⟨⟨b1, hb⟩, b2⟩ := b
    simp only [List.cons.injEq, Lit.int.injEq, true_and, and_true] at h
    obtain ⟨h1, h2⟩ := h
    have e1 : a1 = b1 := by omega
    have e2 : a2 = b2 := BitVec.eq_of_toNat_eq (by omega)
    subst e1; subst e2; rfl
  · simp [Value.formed, Tryd.underlying57, Program.cellsOf]
    all_goals kernel_rfl
  · simp [k57, Instr.sameBits]
def kk (t : Nat) (e : Int) : HK := (⟨t % 16, Nat.mod_lt _ (by decide)⟩, BitVec.ofNat 64 e.toNat)
theorem kk_eq {t : Nat} {e : Int} (ht : t < 16) (he : 0 ≤ e ∧ e < 18446744073709551616) : Value.agg ⟨[.int .i64 (t : Int), .int .u64 e]⟩ = k57 (kk t e) := by
  unfold k57 kk
  simp only [BitVec.toNat_ofNat]
  rw [show t % 16 = t by omega, show ((e.toNat % 2 ^ 64 : Nat) : Int) = e by omega]
theorem kk_inj {t t' : Nat} {e e' : Int} (ht : t < 16) (ht' : t' < 16) (he : 0 ≤ e ∧ e < 18446744073709551616) (he' : 0 ≤ e' ∧ e' < 18446744073709551616) (h : kk t e = kk t' e') : t = t' ∧ e = e' := by
  unfold kk at h
  simp only [Prod.mk.injEq, Fin.mk.injEq] at h
  have h2 := congrArg BitVec.toNat h.2
  simp only [BitVec.toNat_ofNat] at h2
  omega
def bB (l : List (HK × Value)) (a : HK) : Bool := match mget l a with | some (.bool b) => b | _ => false
def mW (l : List (HK × Value)) (a : HK) : BitVec 16 := match mget l a with | some (.int .u16 x) => BitVec.ofNat 16 x.toNat | _ => 0#16
def ShB (l : List (HK × Value)) : Prop := ∀ a, (mget l a).getD (.bool false) = .bool (bB l a)
def ShW (l : List (HK × Value)) : Prop := ∀ a, (mget l a).getD (.int .u16 0) = .int .u16 (mi (mW l a))
theorem ShB.nil : ShB [] := fun a => rfl
theorem ShW.nil : ShW [] := fun a => rfl
theorem bB_put (l : List (HK × Value)) (a c : HK) : bB (mput l a (.bool true)) c = if c = a then true else bB l c := by
  unfold bB; rw [mget_mput]
  by_cases h : c = a
  · rw [if_pos h, if_pos h]
  · rw [if_neg h, if_neg h]
theorem mW_put (l : List (HK × Value)) (a c : HK) (m : BitVec 16) : mW (mput l a (.int .u16 (mi m))) c = if c = a then m else mW l c := by
  unfold mW; rw [mget_mput]
  by_cases h : c = a
  · rw [if_pos h, if_pos h]; exact mi_back m
  · rw [if_neg h, if_neg h]
theorem ShB.put {l : List (HK × Value)} (h : ShB l) (a : HK) : ShB (mput l a (.bool true)) := fun c => by
  rw [bB_put, mget_mput]
  by_cases e : c = a
  · rw [if_pos e, if_pos e]; rfl
  · rw [if_neg e, if_neg e]; exact h c
theorem ShW.put {l : List (HK × Value)} (h : ShW l) (a : HK) (m : BitVec 16) : ShW (mput l a (.int .u16 (mi m))) := fun c => by
  rw [mW_put, mget_mput]
  by_cases e : c = a
  · rw [if_pos e, if_pos e]; rfl
  · rw [if_neg e, if_neg e]; exact h c
def SS (lB lW : List (HK × Value)) (t : Nat) (e : Int) (k : Nat) : Prop := (0 ≤ e ∧ e < 18446744073709551616) ∧ bB lB (kk t e) = true ∧ (mW lW (kk t e)).getLsbD k = true
theorem SS.put {lB lW : List (HK × Value)} {t : Nat} {e : Int} {k : Nat} (h : SS lB lW t e k) (a : HK) (r : BitVec 16) : SS (mput lB a (.bool true)) (mput lW a (.int .u16 (mi (mW lW a ||| r)))) t e k := by
  refine ⟨h.1, ?_, ?_⟩
  · rw [bB_put]; split
    · rfl
    · exact h.2.1
  · rw [mW_put]
    by_cases e9 : kk t e = a
    · rw [if_pos e9, BitVec.getLsbD_or, ← e9, h.2.2]; rfl
    · rw [if_neg e9]; exact h.2.2
theorem SS.new {lB lW : List (HK × Value)} {t : Nat} {e : Int} {k : Nat} {r : BitVec 16} (he : 0 ≤ e ∧ e < 18446744073709551616) (hr : r.getLsbD k = true) : SS (mput lB (kk t e) (.bool true)) (mput lW (kk t e) (.int .u16 (mi (mW lW (kk t e) ||| r)))) t e k := by
  refine ⟨he, ?_, ?_⟩
  · rw [bB_put, if_pos rfl]
  · rw [mW_put, if_pos rfl, BitVec.getLsbD_or, hr, Bool.or_true]
structure L4Z where
  g : Gs
  M : Mm
  B : List (HK × Value)
  W : List (HK × Value)
  i : Nat
structure LI4 (z : L4Z) : Prop where
  s : SysF z.g z.M
  g : GI (40 * z.i) (400 * z.i) z.g
  sB : ShB z.B
  sW : ShW z.W
  j : JW (SS z.B z.W) z.g
  w : WfS (SS z.B z.W) z.g
structure Y4 where
  B : List (HK × Value)
  W : List (HK × Value)
  t : Nat
structure LY4 (B W : List (HK × Value)) (g2 : Gs) (y : Y4) : Prop where
  t : y.t ≤ 16
  sB : ShB y.B
  sW : ShW y.W
  mo : ∀ t e k, SS B W t e k → SS y.B y.W t e k
  wf : ∀ w, w < y.t → ∀ k, k < 16 → (wfg g2.tb w).getLsbD k = true → SS y.B y.W w (g2.ep w) k
theorem LY4.start {B W : List (HK × Value)} {g2 : Gs} (h1 : ShB B) (h2 : ShW W) : LY4 B W g2 ⟨B, W, 0⟩ := ⟨Nat.zero_le _, h1, h2, fun _ _ _ h => h, fun w hw => absurd hw (Nat.not_lt_zero _)⟩
theorem LY4.go {B W : List (HK × Value)} {g2 : Gs} {y : Y4} (h : LY4 B W g2 y) (hI : TI g2.tb) (ht : y.t < 16) (he : 0 ≤ g2.ep y.t ∧ g2.ep y.t < 18446744073709551616) {r : Nat} (hw : waitOn g2.tb y.t 20 = some r) : LY4 B W g2 ⟨mput y.B (kk y.t (g2.ep y.t)) (.bool true), mput y.W (kk y.t (g2.ep y.t)) (.int .u16 (mi (mW y.W (kk y.t (g2.ep y.t)) ||| wfN g2.tb 20 y.t))), y.t + 1⟩ := by
  refine ⟨by simp only; omega, h.sB.put _, h.sW.put _ _, fun t e k hs => (h.mo t e k hs).put _ _, fun w hw9 k hk hs => ?_⟩
  simp only at hw9
  by_cases c : w = y.t
  · subst c; exact SS.new he (by rw [wf_wfg hI]; exact hs)
  · exact (h.wf w (by omega) k hk hs).put _ _
theorem LY4.skip {B W : List (HK × Value)} {g2 : Gs} {y : Y4} (h : LY4 B W g2 y) (ht : y.t < 16) (hw : waitOn g2.tb y.t 20 = none) : LY4 B W g2 ⟨y.B, y.W, y.t + 1⟩ := by
  refine ⟨by simp only; omega, h.sB, h.sW, h.mo, fun w hw9 k hk hs => ?_⟩
  simp only at hw9
  by_cases c : w = y.t
  · subst c
    unfold wfg WFv at hs
    simp only at hs
    rw [hw] at hs; simp at hs
  · exact h.wf w (by omega) k hk hs
theorem JW.mono {S S' : Nat → Int → Nat → Prop} {g : Gs} (h : JW S g) (hm : ∀ t e k, S t e k → S' t e k) : JW S' g := ⟨fun t ht e k hk hn => hm t e k (h.ws t ht e k hk hn), fun t u h1 h2 k hk hs => hm _ _ _ (h.mg t u h1 h2 k hk hs), h.ok⟩
theorem LI4.next {z : L4Z} (h : LI4 z) {g2 : Gs} {M2 : Mm} {y : Y4} (hS : SysF g2 M2) (hG : GI (40 * ((z.i + 1 : Nat) : Int)) (400 * ((z.i + 1 : Nat) : Int)) g2) (hJ : ∀ S, JW S z.g → WfS S z.g → WfS S g2 → JW S g2) (hy : LY4 z.B z.W g2 y) (ht : y.t = 16) : LI4 ⟨g2, M2, y.B, y.W, z.i + 1⟩ := by
  have hw : WfS (SS y.B y.W) g2 := fun w hw k hk hs => hy.wf w (by omega) k hk hs
  exact ⟨hS, hG, hy.sB, hy.sW, hJ _ (h.j.mono hy.mo) (fun w hw k hk hs => hy.mo _ _ _ (h.w w hw k hk hs)) hw, hw⟩
theorem ed_SS {lB lW : List (HK × Value)} {g : Gs} (hj : JW (SS lB lW) g) {c : Nat} {y : Eg} (hy : y ∈ edN (wsK g.ws c) 16) : y.w < 16 ∧ y.h < 16 ∧ y.w % 4 = c ∧ SS lB lW y.w y.e y.h := by
  obtain ⟨h1, x, hx, h2, h3, h4, h5⟩ := edN_mem hy
  unfold wsK at hx
  split at hx
  · rename_i hc
    refine ⟨h1, h2, hc, hj.ws y.w h1 y.e y.h h2 ?_⟩
    rw [h3, nt_of_mem (hj.ok y.w h1).srt hx]; exact h5
  · cases hx
theorem wtg00 (t : Nat) : wtg g00.tb t = false := by
  have : ∀ n, waitOn g00.tb t n = none := by
    intro n
    induction n with
    | zero => rfl
    | succ n ih => rw [waitOn, ih]; simp [g00, tb0]
  unfold wtg; rw [this]; rfl
def wtA (f : Nat → Bool) : List Value := arrL 16 (fun j => .bool (f j))
theorem wtA_len (f : Nat → Bool) : (wtA f).length = 16 := arrL_length _ _
theorem wtA_zero : C [.bool false, .bool false, .bool false, .bool false, .bool false, .bool false, .bool false, .bool false, .bool false, .bool false, .bool false, .bool false, .bool false, .bool false, .bool false, .bool false] 47 = C (wtA (fun t => wtg g00.tb t)) 47 := by
  have : (fun t => wtg g00.tb t) = fun _ => false := funext wtg00
  rw [this]; unfold wtA arrL; rfl
theorem wtA_at {f : Nat → Bool} {t : Nat} (ht : t < 16) : (wtA f)[0 + t * 1]? = some (.bool (f t)) := by
  unfold wtA; rw [arrL_get (by omega)]; simp
theorem wtA_store {f : Nat → Bool} {i : Nat} {b : Bool} (h : i < 16) : setL (wtA f) (0 + i * 1) [.bool b] = wtA (fun j => if j = i then b else f j) := by
  unfold wtA
  rw [arr_store h]
  refine arrL_congr fun j _ => ?_
  unfold updV
  by_cases c : j = i
  · simp only [if_pos c]
  · simp only [if_neg c]
def mixB (f g : Nat → Bool) (i : Nat) : Nat → Bool := fun j => if j < i then g j else f j
theorem mix0 (f g : Nat → Bool) : C (wtA f) 47 = C (wtA (mixB f g 0)) 47 := congrArg (C · 47) (arrL_congr fun j _ => by unfold mixB; rw [if_neg (by omega)])
theorem mixS {f g : Nat → Bool} {i : Nat} {b : Bool} (hb : g i = b) : C (wtA (fun j => if j = i then b else mixB f g i j)) 47 = C (wtA (mixB f g (i + 1))) 47 := congrArg (C · 47) (arrL_congr fun j _ => by
  unfold mixB
  simp only
  by_cases c : j = i
  · subst c; rw [if_pos rfl, if_pos (by omega), hb]
  · rw [if_neg c]
    by_cases c2 : j < i
    · rw [if_pos c2, if_pos (by omega)]
    · rw [if_neg c2, if_neg (by omega)])
theorem mix16 (f g : Nat → Bool) {i : Nat} (h : i = 16) : C (wtA (mixB f g i)) 47 = C (wtA g) 47 := congrArg (C · 47) (arrL_congr fun j _ => by unfold mixB; rw [if_pos (by omega)])
def epA (f : Nat → Int) : List Value := arrL 16 (fun j => .int .u64 (f j))
theorem epA_len (f : Nat → Int) : (epA f).length = 16 := arrL_length _ _
def uptoI (i : Nat) (f : Nat → Int) : Nat → Int := fun j => if j < i then f j else 0
theorem epA_zero (f : Nat → Int) : C [.int .u64 0, .int .u64 0, .int .u64 0, .int .u64 0, .int .u64 0, .int .u64 0, .int .u64 0, .int .u64 0, .int .u64 0, .int .u64 0, .int .u64 0, .int .u64 0, .int .u64 0, .int .u64 0, .int .u64 0, .int .u64 0] 50 = C (epA (uptoI 0 f)) 50 := by
  have : epA (uptoI 0 f) = epA (fun _ => 0) := arrL_congr fun j _ => by unfold uptoI; rw [if_neg (by omega)]
  rw [this]; unfold epA arrL; rfl
theorem epA_at {f : Nat → Int} {t : Nat} (ht : t < 16) : (epA f)[0 + t * 1]? = some (.int .u64 (f t)) := by
  unfold epA; rw [arrL_get (by omega)]; simp
theorem epA_store {f : Nat → Int} {i : Nat} (h : i < 16) : setL (epA (uptoI i f)) (0 + i * 1) [.int .u64 (f i)] = epA (uptoI (i + 1) f) := by
  unfold epA
  rw [arr_store h]
  refine arrL_congr fun j _ => ?_
  unfold updV uptoI
  by_cases c : j = i
  · subst c; simp
  · simp only [if_neg c]
    by_cases c2 : j < i
    · rw [if_pos c2, if_pos (by omega)]
    · rw [if_neg c2, if_neg (by omega)]
theorem epA_16 {f : Nat → Int} {i : Nat} (h : i = 16) : C (epA (uptoI i f)) 50 = C (epA f) 50 := congrArg (C · 50) (arrL_congr fun j _ => by unfold uptoI; rw [if_pos (by omega)])
theorem sys_bt4 {bg : Nat} {M : Mm} {w : World} (h : Mem (sysL bg M) w) : Mem (tbL M.bt M.ft M.Et) w := by unfold sysL at h; exact (mem_app (mem_app h).2).2
theorem ep_w {g g2 : Gs} {t r : Nat} (h : EpLaw g g2) (ht : t < 16) (hw : waitOn g2.tb t 20 = some r) : wtg g2.tb t = true ∧ g2.ep t = g.ep t := by
  have e : wtg g2.tb t = true := by unfold wtg; rw [hw]; rfl
  refine ⟨e, ?_⟩
  rcases h t ht with ⟨_, h2, _⟩ | ⟨_, h2⟩
  · rw [e] at h2; cases h2
  · exact h2
theorem ep_n {g g2 : Gs} {t : Nat} (h : EpLaw g g2) (ht : t < 16) (hw : waitOn g2.tb t 20 = none) : wtg g2.tb t = false ∧ (wtg g.tb t = true → g2.ep t = g.ep t + 1) ∧ (wtg g.tb t = false → g2.ep t = g.ep t) := by
  have e : wtg g2.tb t = false := by unfold wtg; rw [hw]; rfl
  refine ⟨e, fun h1 => ?_, fun h1 => ?_⟩
  · rcases h t ht with ⟨_, _, h2⟩ | ⟨h2 | h2, _⟩
    · exact h2
    · rw [h1] at h2; cases h2
    · rw [e] at h2; cases h2
  · rcases h t ht with ⟨h2, _⟩ | ⟨_, h2⟩
    · rw [h1] at h2; cases h2
    · exact h2
theorem wfS00 : WfS (SS [] []) g00 := fun w _ k _ h => by
  have h1 : waitOn g00.tb w 20 = none := by
    have := wtg00 w; unfold wtg at this
    cases hw : waitOn g00.tb w 20 with
    | none => rfl
    | some r => rw [hw] at this; cases this
  unfold wfg WFv at h
  simp only at h
  rw [h1] at h; simp at h
theorem mix_at (f g : Nat → Bool) (i : Nat) : mixB f g i i = f i := by unfold mixB; rw [if_neg (by omega)]
theorem kk_ld {t : Nat} {e : Int} (ht : t < 16) (he : 0 ≤ e ∧ e < 18446744073709551616) : Value.agg ⟨List.take 2 (List.drop 0 [.int .i64 (t : Int), .int .u64 e])⟩ = k57 (kk t e) := kk_eq ht he
theorem mget_same (l : List (HK × Value)) (a : HK) (v z : Value) : (mget (mput l a v) a).getD z = v := by rw [mget_mput, if_pos rfl]; rfl

end Go.Proofs.Qxb6500911aDoor

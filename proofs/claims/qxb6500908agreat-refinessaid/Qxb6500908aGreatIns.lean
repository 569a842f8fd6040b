import Derived.Test.Qxb6500908aGreatEng
import Derived.Test.Qxb6500908aGreatClr
import Derived.Test.Qxb6500908aGreatCpy
import Derived.Test.Qxb6500908aGreatRw
import Derived.Test.Qxb6500908aGreatFun
import Derived.Lib.AppendZerosOnto
import Derived.Lib.Overlaps
set_option linter.unusedVariables false
set_option linter.unusedSimpArgs false
namespace Go.Eng
/-! parts of the memory that are not told one by one -/
theorem find_skip {B F G : List (Nat × Obj)} {b : Nat} {o : Obj} (h : Find F b o G) : Find (B ++ F) b o (B ++ G) := ⟨(List.Perm.append_left B h.perm).trans List.perm_middle⟩
theorem keeps_skip {B F E G : List (Nat × Obj)} (h : Keeps F E G) : Keeps (B ++ F) E (B ++ G) :=
  ⟨(List.Perm.append_left B h.perm).trans (by rw [← List.append_assoc, ← List.append_assoc]; exact List.perm_append_comm.append_right G)⟩
theorem keeps_app {F A E G1 G : List (Nat × Obj)} (h1 : Keeps F A G1) (h2 : Keeps G1 E G) : Keeps F (A ++ E) G :=
  ⟨h1.perm.trans (by rw [List.append_assoc]; exact List.Perm.append_left A h2.perm)⟩
theorem memK {D : List Nat} {w0 w : World} {F E G : List (Nat × Obj)} (hh : Has D w0 F w) (h : Keeps F E G) : Mem E w := fun b o m => hh.mem b o (h.perm.mem_iff.2 (List.mem_append_left _ m))
theorem spk_lift {P : Program} {f : FuncId} {args : Array Value} {Pre : World → Prop} {A G F : List (Nat × Obj)} {R R' : Value → List (Nat × Obj) → Prop} (h : SpK P f args Pre A R) (p : Keeps F A G) (hr : ∀ v F', R v F' → ∃ F2 G2, R' v F2 ∧ (F' ++ G).Perm (F2 ++ G2)) : SpK P f args Pre F R' := by
  intro w hp hm hn
  have hh := (Has.start hm hn).perm p.perm
  refine (h w hp hh.left.1 hh.left.2).mono fun e w' he => ?_
  cases e with
  | returned v =>
    obtain ⟨F', hR, hhas⟩ := he
    obtain ⟨F2, G2, h2, hpm⟩ := hr v F' hR
    exact ⟨F2, h2, (hh.call (fun b hb => hb) hhas).keep ⟨hpm⟩⟩
  | panicked c => exact he.elim
  | outgrown => exact he.elim
section ins
variable {P : Program} {n : Nat} {L : List (Nat × Value)} {a : Act} {w : World} {T : TypeId} {pos : String} {aft : Array Edge} {g : Option (Nat × Bool)} {dst : Option Nat} {x y : Operand}
variable {ops : Array Oper} {Q : Exit → Act → World → Prop} {K : Act → World → Prop} {D : List Nat} {w0 : World} {F G : List (Nat × Obj)}
/-- append(x[:i], make(S, k)...) where there is no room -/
theorem w_appendZ {d : Nat} {t tn e size bytes b i c k : Nat} {l : List Value} {kn kq : IntKind} (hl : Sl n L a) (hh : Has D w0 F w) (hd : Nat.blt d n = true) (hg : GuardOk ops L g) (ht : appOk P t e size bytes = true) (htn : P.underlying tn = some (.int kn)) (hs0 : Nat.blt 0 size = true)
    (hx : val L x = some (.slice (some ⟨b, 0, none⟩) i c)) (hy : val L y = some (.int kq (k : Int))) (hf : Find F b (C l e) G) (hil : i * size ≤ l.length) (hk : 0 < k) (hc : c < i + k) (hb : (i + k) * bytes ≤ 70368744177664) (hb2 : i + k ≤ 4611686018427387904) (hby : bytes ≤ 4294967296)
    (kk : ∀ b' cap zs a' w', i + k ≤ cap → (l.take (i * size) ++ zs).length = cap * size → Sl n ((d, .slice (some ⟨b', 0, none⟩) (i + k) cap) :: L) a' → Has D w0 ((b', C (l.take (i * size) ++ zs) e) :: F) w' → K a' w') :
    OpW P ops Q ⟨some d, .call { callee := .builtin .append, args := #[x, y], argTypes := #[t, tn] }, T, pos, aft, g⟩ K a w := by
  have hm := hh.mem b _ hf.mem
  obtain ⟨inf, z, hu, hi, hz, rfl, rfl, hzs⟩ := appOk_spec ht
  have hlen : (l.take (i * inf.size)).length = i * inf.size := by rw [List.length_take]; omega
  have hm' : w.drew.heap[b]? = some (C l e) := hm
  have hld := run_loadCellsC (P := P) (w := w.drew) (o := 0) (cs := l.take (i * inf.size)) hm' (by rw [List.drop_zero, hlen])
  rw [hlen] at hld
  have h2 : k * inf.bytes ≤ (i + k) * inf.bytes := Nat.mul_le_mul_right _ (by omega)
  have hfit2 : Builtin.nextslicecap (i + k) c * inf.bytes ≤ 281474976710656 := growslice_fits (by omega) (by omega)
  have hr := Go.Lib.run_append_grow_zeros (P := P) w t tn T e inf z kq kn hu htn hi hz (some ⟨b, 0, none⟩) i c (l.take (i * inf.size)) (by simp only [Builtin.firstCells]; exact hld) k hk (Nat.blt_eq.mp hs0) hc (by omega) (by omega) hfit2
  have hge : i + k ≤ grownCap w (i + k) c e := grownCap_ge w (i + k) c e
  have hzl : ∀ m, (Builtin.zeroCells z.cells m).toList.length = m * inf.size := fun m => by rw [← hzs]; simp [Builtin.zeroCells]
  refine wl_val hl hd hg (v := .slice (some ⟨w.heap.size, 0, none⟩) (i + k) (grownCap w (i + k) c e)) (w' := w.drew.alloc (C (l.take (i * inf.size) ++ ((Builtin.zeroCells z.cells k).toList ++ (Builtin.zeroCells z.cells (grownCap w (i + k) c e - (i + k))).toList)) e)) ?_ fun a' hl' => kk _ _ _ a' _ hge ?_ hl' (hh.drew.alloc _)
  · simp only [Gives, execOp, resolve, invoke, builtin]
    simp only [Sem.run_bind, hl.ev hx, hl.ev hy, List.map_toArray, List.map_cons, List.map_nil, Sem.run_pure, Result.andThen_ok, hr]
    have e1 : ((l.take (i * inf.size)).toArray ++ Builtin.zeroCells z.cells k ++ Builtin.zeroCells z.cells (grownCap w (i + k) c e - (i + k))) = (⟨l.take (i * inf.size) ++ ((Builtin.zeroCells z.cells k).toList ++ (Builtin.zeroCells z.cells (grownCap w (i + k) c e - (i + k))).toList)⟩ : Array Value) := by apply Array.ext'; simp
    rw [e1]; rfl
  · simp only [List.length_append, hlen, hzl, ← Nat.add_mul]
    congr 1; omega
/-- copy within one block; only what is taken must be of one cell each -/
theorem w_copyS {d : Nat} {t t2 : TypeId} {size b od os dl dc sl sc c : Nat} {l cs : List Value} {T' : TypeId} (hl : Sl n L a) (hh : Has D w0 F w) (hd : Nat.blt d n = true) (hg : GuardOk ops L g) (ht : slcOk P t size = true)
    (hx : val L x = some (.slice (some ⟨b, od, none⟩) dl dc)) (hy : val L y = some (.slice (some ⟨b, os, none⟩) sl sc)) (hf : Find F b (C l T') G) (hn : Nat.min sl dl = c) (h1 : od + c * size ≤ l.length) (h2 : os + c * size ≤ l.length) (hcs : (l.drop os).take (c * size) = cs) (h3 : cs.all (·.oneCell') = true)
    {l' : List Value} (hset : setL l od cs = l') (kk : ∀ a' w', Sl n ((d, .int .i64 c) :: L) a' → Has D w0 ((b, C l' T') :: G) w' → K a' w') :
    OpW P ops Q ⟨some d, .call { callee := .builtin .copy, args := #[x, y], argTypes := #[t, t2] }, T, pos, aft, g⟩ K a w := by
  subst hcs
  have hm := hh.mem b _ hf.mem
  obtain ⟨e, inf, hu, hi, rfl⟩ := slcOk_spec ht
  have hlen : ((l.drop os).take (c * inf.size)).length = c * inf.size := by rw [List.length_take, List.length_drop]; omega
  have hld := run_loadCellsC (P := P) (o := os) (cs := (l.drop os).take (c * inf.size)) hm (by rw [hlen])
  rw [hlen] at hld
  have hst := run_storeC (P := P) (vs := (l.drop os).take (c * inf.size)) (o := od) hm (by rw [hlen]; exact h1) h3
  refine wl_val hl hd hg (v := .int .i64 c) (w' := w.setRow b ⟨setL l od ((l.drop os).take (c * inf.size))⟩) ?_ fun a' hl' => kk a' _ hl' (hset ▸ hh.write hf (heap_setRow hm) rfl rfl rfl)
  simp [Gives, execOp, resolve, invoke, builtin, hl.ev hx, hl.ev hy, Builtin.copy_, run_underlying hu, Builtin.lenOf, hn, sizeOf, typeInfo, hi, Builtin.firstCells, hld, hst, goInt]
/-- copy out of another block -/
theorem w_copyB {d : Nat} {t t2 : TypeId} {size b b2 od os dl dc sl sc c : Nat} {l l2 cs : List Value} {T' T2 : TypeId} {f2 : Nat × Nat} (hl : Sl n L a) (hh : Has D w0 F w) (hd : Nat.blt d n = true) (hg : GuardOk ops L g) (ht : slcOk P t size = true)
    (hx : val L x = some (.slice (some ⟨b, od, none⟩) dl dc)) (hy : val L y = some (.slice (some ⟨b2, os, none⟩) sl sc)) (hf : Find F b (C l T') G) (hs : w.heap[b2]? = some (.cells ⟨l2⟩ T2 f2)) (hn : Nat.min sl dl = c) (h1 : od + c * size ≤ l.length) (hcs : (l2.drop os).take (c * size) = cs) (hcl : cs.length = c * size) (h3 : cs.all (·.oneCell') = true)
    {l' : List Value} (hset : setL l od cs = l') (kk : ∀ a' w', Sl n ((d, .int .i64 c) :: L) a' → Has D w0 ((b, C l' T') :: G) w' → K a' w') :
    OpW P ops Q ⟨some d, .call { callee := .builtin .copy, args := #[x, y], argTypes := #[t, t2] }, T, pos, aft, g⟩ K a w := by
  have hm := hh.mem b _ hf.mem
  obtain ⟨e, inf, hu, hi, rfl⟩ := slcOk_spec ht
  have hld := run_loadCellsC (P := P) (o := os) (cs := cs) hs (by rw [hcl, hcs])
  rw [hcl] at hld
  have hst := run_storeC (P := P) (vs := cs) (o := od) hm (by rw [hcl]; exact h1) h3
  refine wl_val hl hd hg (v := .int .i64 c) (w' := w.setRow b ⟨setL l od cs⟩) ?_ fun a' hl' => kk a' _ hl' (hset ▸ hh.write hf (heap_setRow hm) rfl rfl rfl)
  simp [Gives, execOp, resolve, invoke, builtin, hl.ev hx, hl.ev hy, Builtin.copy_, run_underlying hu, Builtin.lenOf, hn, sizeOf, typeInfo, hi, Builtin.firstCells, hld, hst, goInt]
/-- slices.overlaps of two blocks -/
theorem r_overlaps {f : FuncId} {fn : Func} {tS tR e size bytes : Nat} {ts : Array TypeId} {b1 o1 l1 c1 b2 o2 l2 c2 : Nat} {x1 x2 : List Value} {T1 T2 : TypeId} (hl : Sl n L a) (hx : val L x = some (.slice (some ⟨b1, o1, none⟩) l1 c1)) (hy : val L y = some (.slice (some ⟨b2, o2, none⟩) l2 c2))
    (hf : P.funcs[f]? = some fn) (hn : (fn.name == "runtime.NumGoroutine") = false) (hb : fn.body.isNone = true) (hfn : Extern.findNext fn = none) (he : Extern.find fn = some (Extern.SlicesOverlaps.overlaps #[tS, tS] #[tR])) (ht : appOk P tS e size bytes = true)
    (hm1 : w.heap[b1]? = some (C x1 T1)) (hm2 : w.heap[b2]? = some (C x2 T2)) (hne : b1 ≠ b2) (h2 : 0 < x2.length) :
    Gives P a ⟨dst, .call { callee := .value (.func f), args := #[x, y], argTypes := ts }, T, pos, aft, g⟩ w (.bool false) w := by
  obtain ⟨inf, z, hu, hi, hz, rfl, rfl, hzs⟩ := appOk_spec ht
  have hov := Go.Lib.run_overlaps_apart (P := P) w tS tR e hu inf.size (fun w => by simp [sizeOf, typeInfo, hi]) ⟨b1, o1, none⟩ ⟨b2, o2, none⟩ l1 c1 l2 c2 hne T1 T2 x1.length x2.length (by simp [World.shape?, hm1, C]) (by simp [World.shape?, hm2, C]) (by omega) (by simp [World.frozen?, hm1, C]) (by simp [World.frozen?, hm1, C])
  have hc : (callFunc f #[.slice (some ⟨b1, o1, none⟩) l1 c1, .slice (some ⟨b2, o2, none⟩) l2 c2]).run P w = .ok (.value (.bool false)) w := by
    rw [run_callFunc_extern hf hn hb hfn he, hov]; rfl
  have hff : a.eval (.func f) = .func (.func f) #[] #[] := rfl
  simp [Gives, execOp, resolve, invoke, hl.ev hx, hl.ev hy, hff, Deferred.ofValue, hc]
end ins
end Go.Eng

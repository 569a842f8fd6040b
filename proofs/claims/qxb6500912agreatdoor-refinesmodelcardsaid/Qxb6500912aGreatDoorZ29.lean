import Derived.Test.Qxb6500912aGreatDoorZ28
import Derived.Test.Qxb6500912aGreatDoorMkn
namespace Go.Proofs.Qxb6500912aGreatDoor
open Go.Eng
set_option linter.unusedVariables false
set_option linter.unusedSimpArgs false

/-! ## the script -/
structure DOps (sb : Nat) (c : List Value) (p : Option Addr) (cap : Nat) (ops : List DO) : Prop where
  le : ops.length ≤ cap
  ok : ∀ o, o ∈ ops → o.ok
  sm : ∀ o, o ∈ ops → o.dat.length ≤ 140737488351232
  at_ : 0 < ops.length → ∃ so, p = some ⟨sb, so, none⟩ ∧ ∀ i o, ops[i]? = some o → (c.drop (so + i * 16)).take 16 = o.vals
def DIn (sb : Nat) (c : List Value) (T : TypeId) (fr : Nat × Nat) (ops : List DO) (w : World) : Prop := (0 < ops.length → w.heap[sb]? = some (.cells ⟨c⟩ T fr)) ∧ ∀ d, d ∈ ops → Mem d.Sc w
structure ZS where
  i : Nat
  n : Int
def cfg0 : CF := ⟨0, 1048576, 1, 2, 1, 3, true, 1000, 0, false⟩
theorem cfg0_ok : CFok cfg0 := by unfold cfg0; refine ⟨?_, ?_, ?_, ?_, ?_, ?_, ?_, ?_⟩ <;> exact ⟨by decide, by decide⟩
theorem cfg0_cv : CV cfg0 := by unfold CV cfg0; decide
theorem apart_of {D : List Nat} {w0 w : World} {A B : List (Nat × Obj)} {x y : Nat × Obj} (h : Has D w0 (x :: y :: (A ++ B)) w) : ∀ z, z ∈ B → z.1 ∉ A.map Prod.fst := fun z hz hm => by
  have h1 := h.nodup
  simp only [List.map_cons, List.nodup_cons, List.map_append] at h1
  have h2 := h1.2.2
  rw [List.nodup_append] at h2
  exact h2.2.2 _ hm _ (List.mem_map.2 ⟨z, hz, rfl⟩) rfl
theorem absolute2_spec (o : DO) (h : o.ok) (hN : o.dat.length ≤ 65536) (u : Int) : SpK Tryz.prog 19 #[.slice o.p o.dat.length o.cap, .int .u32 u] (Mem o.Sc) [] (fun v F' => Row v (o.dat.map (absb u)).length (fl pc (o.dat.map (absb u))) 2 73 F') := by
  rw [List.length_map]; exact absolute_spec o h hN u
theorem ackT_cfg {t t' : St} {ack : Int} {dup : Bool} {bks : List (Int × Int)} (h : AckT t ack dup bks t') : t'.cfg = t.cfg := by
  rcases h with ⟨_, rfl⟩ | ⟨_, _, _, _, rfl⟩ <;> rfl
theorem DIn.keep {sb : Nat} {c : List Value} {T : TypeId} {fr : Nat × Nat} {ops : List DO} {w w' : World} {F : List (Nat × Obj)} (hh : Has [] w F w') (h : DIn sb c T fr ops w) : DIn sb c T fr ops w' :=
  ⟨fun h0 => heap_keep hh (h.1 h0), fun d hd => mem_keep hh (h.2 d hd)⟩

theorem f_retCCT {P : Program} {n : Nat} {L : List (Nat × Value)} {a : Act} {w : World} {D : List Nat} {w0 : World} {F : List (Nat × Obj)} {fn : Func} {R : Value → List (Nat × Obj) → Prop} {t t2 t3 : Nat} {ty ty2 T' T2 : TypeId} {b b2 m m2 : Nat} {l l2 : List Value} {v3 : Value} {F' G G1 G2 : List (Nat × Obj)} (hl : Sl n L a) (hh : Has D w0 F w) (hr : fn.results = #[.cell t ty, .cell t2 ty2, .tmp t3]) (hv : Go.Eng.look L t = some (Value.pointer (some ⟨b, 0, none⟩))) (hv2 : Go.Eng.look L t2 = some (Value.pointer (some ⟨b2, 0, none⟩))) (hv3 : Go.Eng.look L t3 = some v3)
    (ht : aggOk P ty m = true) (ht2 : aggOk P ty2 m2 = true) (hf : Find F b (C l T') G1) (hf2 : Find F b2 (C l2 T2) G2) (hn : l.length = m) (hn2 : l2.length = m2) (hp : Keeps F F' G) (hR : R (.tuple #[.agg ⟨l⟩, .agg ⟨l2⟩, v3]) F') : bodyPost P fn (Post D w0 R) .ret a w :=
  ⟨hl.defers, .tuple #[.agg ⟨l⟩, .agg ⟨l2⟩, v3], by simp [results, hr, hl.get t _ hv, hl.get t2 _ hv2, hl.get t3 _ hv3, asAddr, run_loadVar_C ht (hh.mem b _ hf.mem) hn, run_loadVar_C ht2 (hh.mem b2 _ hf2.mem) hn2], F', hR, hh.keep hp⟩
/-! ## both sides in memory -/
theorem spk_perm {P : Program} {f : FuncId} {args : Array Value} {Pre : World → Prop} {F F2 : List (Nat × Obj)} {R : Value → List (Nat × Obj) → Prop} (h : SpK P f args Pre F R) (p : F.Perm F2) : SpK P f args Pre F2 R := fun w h1 h2 h3 => by
  refine (h w h1 (fun b o m => h2 b o (p.mem_iff.1 m)) ((p.map Prod.fst).nodup_iff.2 h3)).mono fun e w' he => ?_
  cases e with
  | returned v =>
    obtain ⟨F', h4, h5⟩ := he
    have hD : ∀ b, b ∈ F.map Prod.fst ↔ b ∈ F2.map Prod.fst := fun b => (p.map Prod.fst).mem_iff
    exact ⟨F', h4, ⟨⟨h5.frm.os, h5.frm.tape, h5.frm.output, h5.frm.size, fun b hb hd => h5.frm.block b hb fun h9 => hd ((hD b).1 h9)⟩, h5.mem, h5.nodup, fun b o m => (h5.own b o m).imp (hD b).1 id⟩⟩
  | _ => exact he
def PW (Z : List (Nat × Obj)) (cp mp : Nat) (t : St) (m : CS) (st : Int) (sk : Bool) (os : List Bk) : Prop := ∃ Zc Zm, CM Zc cp t ∧ MM Zm mp m st sk os ∧ (Zc ++ Zm).Perm Z
section pw
variable {Z : List (Nat × Obj)} {cp mp : Nat} {t : St} {m : CS} {st : Int} {sk : Bool} {os : List Bk}
theorem PW.rc {f : FuncId} {args : Array Value} {R : Value → List (Nat × Obj) → Prop} (h : PW Z cp mp t m st sk os) (hg : ∀ Zc, CM Zc cp t → SpK Tryz.prog f args (Mem Zc) [] R) : SpK Tryz.prog f args (Mem Z) [] R := by
  obtain ⟨Zc, Zm, h1, h2, hp⟩ := h
  exact spk_weak (hg Zc h1) (fun w hw b o m => hw b o (hp.mem_iff.1 (List.mem_append_left _ m))) fun _ _ h => h
theorem PW.rm {f : FuncId} {args : Array Value} {R : Value → List (Nat × Obj) → Prop} (h : PW Z cp mp t m st sk os) (hg : ∀ Zm, MM Zm mp m st sk os → SpK Tryz.prog f args (Mem Zm) [] R) : SpK Tryz.prog f args (Mem Z) [] R := by
  obtain ⟨Zc, Zm, h1, h2, hp⟩ := h
  exact spk_weak (hg Zm h2) (fun w hw b o m => hw b o (hp.mem_iff.1 (List.mem_append_right _ m))) fun _ _ h => h
theorem PW.wc {f : FuncId} {args : Array Value} {Pre : World → Prop} {T' : St → Prop} (h : PW Z cp mp t m st sk os) (hg : ∀ Zc, CM Zc cp t → (∀ x, x ∈ Zc → x ∈ Z) → SpK Tryz.prog f args Pre Zc (fun v F' => v = .tuple #[] ∧ ∃ t', T' t' ∧ CM F' cp t')) : SpK Tryz.prog f args Pre Z (fun v F' => v = .tuple #[] ∧ ∃ t', T' t' ∧ PW F' cp mp t' m st sk os) := by
  obtain ⟨Zc, Zm, h1, h2, hp⟩ := h
  exact spk_perm (spk_weak (spk_frame (hg Zc h1 fun x hx => hp.mem_iff.1 (List.mem_append_left _ hx)) Zm) (fun w hw => hw) fun v F' ⟨F1, ⟨a, t', b, c⟩, e⟩ => ⟨a, t', b, F1, Zm, c, h2, by rw [e]⟩) hp
theorem PW.wm {f : FuncId} {args : Array Value} {Pre : World → Prop} {M' : CS → List Bk → Prop} (h : PW Z cp mp t m st sk os) (hg : ∀ Zm, MM Zm mp m st sk os → (∀ x, x ∈ Zm → x ∈ Z) → SpK Tryz.prog f args Pre Zm (fun v F' => v = .tuple #[] ∧ ∃ m' os', M' m' os' ∧ MM F' mp m' st sk os')) : SpK Tryz.prog f args Pre Z (fun v F' => v = .tuple #[] ∧ ∃ m' os', M' m' os' ∧ PW F' cp mp t m' st sk os') := by
  obtain ⟨Zc, Zm, h1, h2, hp⟩ := h
  exact spk_perm (spk_weak (spk_frame (hg Zm h2 fun x hx => hp.mem_iff.1 (List.mem_append_right _ hx)) Zc) (fun w hw => hw) fun v F' ⟨F1, ⟨a, m', os', b, c⟩, e⟩ => ⟨a, m', os', b, Zc, F1, h1, c, by rw [e]; exact List.perm_append_comm⟩) (List.perm_append_comm.trans hp)
theorem pw_new {Zc Zm : List (Nat × Obj)} (h1 : CM Zc cp t) (h2 : MM Zm mp m st sk os) : PW (Zm ++ Zc) cp mp t m st sk os := ⟨Zc, Zm, h1, h2, List.perm_append_comm⟩
variable {B D : Int}
/-- contracts over the pair -/
theorem una_pc (h : PW Z cp mp t m st sk os) : SpK Tryz.prog 18 #[.pointer (some ⟨cp, 0, none⟩)] (Mem Z) [] (fun v F' => v = .int .u32 t.s.una ∧ F' = []) := h.rc fun _ h => una_cm h
theorem nxt_pc (h : PW Z cp mp t m st sk os) : SpK Tryz.prog 28 #[.pointer (some ⟨cp, 0, none⟩)] (Mem Z) [] (fun v F' => v = .int .u32 t.s.nxt ∧ F' = []) := h.rc fun _ h => nxt_cm h
theorem view_pc (h : PW Z cp mp t m st sk os) (hi : SI t) : SpK Tryz.prog 26 #[.pointer (some ⟨cp, 0, none⟩)] (Mem Z) [] (fun v F' => v = .agg ⟨vwc (viewP t.s t.ns t.bl)⟩ ∧ F' = []) := h.rc fun _ h => view_cm h hi
theorem next_pc (h : PW Z cp mp t m st sk os) (hi : SI t) (fresh : Int) (hf : U fresh) : SpK Tryz.prog 12 #[.pointer (some ⟨cp, 0, none⟩), .int .u32 fresh] (Mem Z) [] (fun v F' => v = .agg ⟨grc (nextP t.s t.ns t.bl fresh)⟩ ∧ F' = []) := h.rc fun _ h => next_cm h hi fresh hf
theorem una_pm (h : PW Z cp mp t m st sk os) (hm : Mk m) : SpK Tryz.prog 10 #[.pointer (some ⟨mp, 0, none⟩)] (Mem Z) [] (fun v F' => v = .int .i64 m.una ∧ F' = []) := h.rm fun _ h => una_mm h hm
theorem nxt_pm (h : PW Z cp mp t m st sk os) (hm : Mk m) : SpK Tryz.prog 9 #[.pointer (some ⟨mp, 0, none⟩)] (Mem Z) [] (fun v F' => v = .int .i64 m.nxt ∧ F' = []) := h.rm fun _ h => nxt_mm h hm
theorem seq_pm (h : PW Z cp mp t m st sk os) (hm : Mk m) (x : Int) : SpK Tryz.prog 14 #[.pointer (some ⟨mp, 0, none⟩), .int .i64 x] (Mem Z) [] (fun v F' => v = .int .u32 (seqM st x) ∧ F' = []) := h.rm fun _ h => seq_mm h hm x
theorem view_pm (h : PW Z cp mp t m st t.cfg.sack t.os) (hi : PI B D t m st) (hD : D < 4294967296) (hfar : farM m t.cfg.sack = false) : SpK Tryz.prog 27 #[.pointer (some ⟨mp, 0, none⟩)] (Mem Z) [] (fun v F' => v = .agg ⟨vwc (viewP t.s t.ns t.bl)⟩ ∧ F' = []) := h.rm fun _ h => view_mm h hi hD rfl rfl hfar
theorem next_pm (h : PW Z cp mp t m st t.cfg.sack t.os) (hi : PI B D t m st) (hfar : farM m t.cfg.sack = false) (fresh : Int) (hfr : U fresh) :
    SpK Tryz.prog 13 #[.pointer (some ⟨mp, 0, none⟩), .int .i64 fresh] (Mem Z) [] (fun v F' => (∃ off, v = .agg ⟨[.int .u8 (nextP t.s t.ns t.bl fresh).k, .int .i64 off, .int .i64 (nextP t.s t.ns t.bl fresh).n]⟩ ∧ (¬ (nextP t.s t.ns t.bl fresh).k = 0 → (nextP t.s t.ns t.bl fresh).q = seqM st off ∧ m.una ≤ off ∧ off ≤ m.nxt)) ∧ F' = []) := h.rm fun _ h => next_mm h hi rfl rfl hfar fresh hfr
theorem far_pm (h : PW Z cp mp t m st sk os) (hm : Mk m) (a0 : Nat) : SpK Tryz.prog 7 #[.pointer (some ⟨a0, 0, none⟩)] (fun w => w.heap[a0]? = some (C [.pointer (some ⟨mp, 0, none⟩)] 34) ∧ Mem Z w) [] (fun v F' => v = .bool (farM m sk) ∧ F' = []) := by
  obtain ⟨Zc, Zm, h1, ⟨bp, bu, bn, p, c, E, hR, hb, rfl⟩, hp⟩ := h
  exact spk_weak (far_m mp m st sk bp hm a0) (fun w hw => ⟨hw.1, hw.2 _ _ (hp.mem_iff.1 (List.mem_append_right _ (List.mem_cons_self ..)))⟩) fun _ _ h => h
theorem sent_pc (h : PW Z cp mp t m st sk os) (hi : SI t) (k q n : Int) (hq : U q) (hn : U n) : Sp Tryz.prog 16 #[.pointer (some ⟨cp, 0, none⟩), .agg ⟨[.int .u8 k, .int .u32 q, .int .u32 n]⟩] Z (fun v F' => v = .tuple #[] ∧ PW F' cp mp { t with s := sentP t.s k q n } m st sk os) :=
  spk_weak (h.wc (T' := fun t' => t' = { t with s := sentP t.s k q n }) fun _ h _ => spk_weak (sent_cm h hi k q n hq hn) (fun _ hw => hw) fun _ _ ⟨a, b⟩ => ⟨a, _, rfl, b⟩) (fun _ hw => hw) fun _ _ ⟨a, _, e, b⟩ => ⟨a, e ▸ b⟩
theorem rto_pc (h : PW Z cp mp t m st sk os) (hi : SI t) : Sp Tryz.prog 22 #[.pointer (some ⟨cp, 0, none⟩)] Z (fun v F' => v = .tuple #[] ∧ PW F' cp mp { t with s := rtoP t.s } m st sk os) :=
  spk_weak (h.wc (T' := fun t' => t' = { t with s := rtoP t.s }) fun _ h _ => spk_weak (rto_cm h hi) (fun _ hw => hw) fun _ _ ⟨a, b⟩ => ⟨a, _, rfl, b⟩) (fun _ hw => hw) fun _ _ ⟨a, _, e, b⟩ => ⟨a, e ▸ b⟩
theorem idle_pc (h : PW Z cp mp t m st sk os) (hi : SI t) : Sp Tryz.prog 24 #[.pointer (some ⟨cp, 0, none⟩)] Z (fun v F' => v = .tuple #[] ∧ PW F' cp mp { t with s := idleP t.s } m st sk os) :=
  spk_weak (h.wc (T' := fun t' => t' = { t with s := idleP t.s }) fun _ h _ => spk_weak (idle_cm h hi) (fun _ hw => hw) fun _ _ ⟨a, b⟩ => ⟨a, _, rfl, b⟩) (fun _ hw => hw) fun _ _ ⟨a, _, e, b⟩ => ⟨a, e ▸ b⟩
theorem ack_pc (h : PW Z cp mp t m st sk os) (hi : SI t) (ack : Int) (hk : U ack) (dup : Bool) (bks : List (Int × Int)) (hbk : bks.length ≤ 100000) (pS : Option Addr) (cS : Nat) (Es : List (Nat × Obj)) (hRs : Row (.slice pS bks.length cS) bks.length (fl pc bks) 2 73 Es) (hdis : ∀ x, x ∈ Es → x.1 ∉ List.map Prod.fst Z) :
    SpK Tryz.prog 20 #[.pointer (some ⟨cp, 0, none⟩), .int .u32 ack, .bool dup, .slice pS bks.length cS] (Mem Es) Z (fun v F' => v = .tuple #[] ∧ ∃ t', AckT t ack dup bks t' ∧ PW F' cp mp t' m st sk os) :=
  h.wc fun _ h hs => ack_cm h hi ack hk dup bks hbk pS cS Es hRs fun x hx h9 => hdis x hx (by
    obtain ⟨y, hy, e⟩ := List.mem_map.1 h9
    exact List.mem_map.2 ⟨y, hs y hy, e⟩)
theorem sent_pm (h : PW Z cp mp t m st sk os) (hm : Mk m) (k off n : Int) (hof : -1152921504606846976 ≤ off ∧ off ≤ 2305843009213693952) (hn : 0 ≤ n ∧ n ≤ 4294967295) (hnx : m.nxt + 4294967296 ≤ 1152921504606846976) :
    Sp Tryz.prog 17 #[.pointer (some ⟨mp, 0, none⟩), .agg ⟨[.int .u8 k, .int .i64 off, .int .i64 n]⟩] Z (fun v F' => v = .tuple #[] ∧ PW F' cp mp t (sentM m k off n) st sk os) :=
  spk_weak (h.wm (M' := fun m' os' => m' = sentM m k off n ∧ os' = os) fun _ h _ => spk_weak (sent_mm h hm k off n hof hn hnx) (fun _ hw => hw) fun _ _ ⟨a, b⟩ => ⟨a, _, _, ⟨rfl, rfl⟩, b⟩) (fun _ hw => hw) fun _ _ ⟨a, _, _, ⟨e1, e2⟩, b⟩ => ⟨a, by rw [e1, e2] at b; exact b⟩
theorem rto_pm (h : PW Z cp mp t m st sk os) (hm : Mk m) (hd : m.credit ≤ 1073741824) : Sp Tryz.prog 23 #[.pointer (some ⟨mp, 0, none⟩)] Z (fun v F' => v = .tuple #[] ∧ PW F' cp mp t (rtoM m) st sk os) :=
  spk_weak (h.wm (M' := fun m' os' => m' = rtoM m ∧ os' = os) fun _ h _ => spk_weak (rto_mm h hm hd) (fun _ hw => hw) fun _ _ ⟨a, b⟩ => ⟨a, _, _, ⟨rfl, rfl⟩, b⟩) (fun _ hw => hw) fun _ _ ⟨a, _, _, ⟨e1, e2⟩, b⟩ => ⟨a, by rw [e1, e2] at b; exact b⟩
theorem idle_pm (h : PW Z cp mp t m st sk os) (hm : Mk m) (hd : m.credit ≤ 1073741824) : Sp Tryz.prog 25 #[.pointer (some ⟨mp, 0, none⟩)] Z (fun v F' => v = .tuple #[] ∧ PW F' cp mp t (idleM m) st sk os) :=
  spk_weak (h.wm (M' := fun m' os' => m' = idleM m ∧ os' = os) fun _ h _ => spk_weak (idle_mm h hm hd) (fun _ hw => hw) fun _ _ ⟨a, b⟩ => ⟨a, _, _, ⟨rfl, rfl⟩, b⟩) (fun _ hw => hw) fun _ _ ⟨a, _, _, ⟨e1, e2⟩, b⟩ => ⟨a, by rw [e1, e2] at b; exact b⟩
theorem ack_pm {t' : St} (h : PW Z cp mp t' m st t.cfg.sack t.os) (hi : PI B D t m st) (hD : D ≤ 4294967295) (ack : Int) (hak : -4611686018427387904 ≤ ack ∧ ack ≤ 4611686018427387904) (hwk : t.cfg.sack = true → ack = m.una → m.nxt - m.una ≤ 262144) (dup : Bool) (bks : List (Int × Int)) (hbk : bks.length ≤ 100000) (pS : Option Addr) (cS : Nat) (Es : List (Nat × Obj)) (hRs : Row (.slice pS bks.length cS) bks.length (fl pc bks) 2 73 Es) (hdis : ∀ x, x ∈ Es → x.1 ∉ List.map Prod.fst Z) :
    SpK Tryz.prog 21 #[.pointer (some ⟨mp, 0, none⟩), .int .i64 ack, .bool dup, .slice pS bks.length cS] (Mem Es) Z (fun v F' => v = .tuple #[] ∧ ∃ m' os', AckMT m st t.cfg.sack (flightP t.s).toNat t.os ack dup bks m' os' ∧ PW F' cp mp t' m' st t.cfg.sack os') :=
  h.wm fun _ h hs => ack_mm h hi.hm hi.cr (by have := hi.dp; omega) _ hi.fl hi.si.bi hi.si.l16 (hi.nb rfl) ack hak (fun h1 h2 => by have := hwk h1 h2; have := hi.fl; omega) dup bks hbk pS cS Es hRs fun x hx h9 => hdis x hx (by
    obtain ⟨y, hy, e⟩ := List.mem_map.1 h9
    exact List.mem_map.2 ⟨y, hs y hy, e⟩)
end pw
structure LZ where
  t : St
  m : CS
  st : Int
  cp : Nat
  mp : Nat
  Z : List (Nat × Obj)
  i : Nat
structure PZ where
  t : St
  m : CS
  Z : List (Nat × Obj)
  f : Int
  j : Nat
theorem i32_mod (x : Int) : (IntKind.i32.wrap x - x) % 4294967296 = 0 := by
  simp [IntKind.wrap, IntKind.bits, IntKind.signed]; omega
theorem una_off {u A : Int} : (u + A) % 4294967296 = (u + IntKind.i32.wrap A) % 4294967296 := by
  have := i32_mod A; omega
theorem wrap_zero {A : Int} (hA : U A) (h : IntKind.i32.wrap A = 0) : A = 0 := by
  have := i32_mod A; omega
theorem has_start {D : List Nat} {w0 w : World} {A B : List (Nat × Obj)} {x y : Nat × Obj} (h : Has D w0 (x :: (A ++ (y :: B))) w) : Has D w0 (y :: x :: (A ++ B)) w :=
  h.perm ((List.Perm.cons _ List.perm_middle).trans (List.Perm.swap ..))
theorem has_again {D : List Nat} {w0 w : World} {A B E : List (Nat × Obj)} {x y v : Nat × Obj} (h : Has D w0 (x :: y :: v :: (A ++ (B ++ E))) w) : Has D w0 (x :: y :: v :: (E ++ B)) w :=
  (h.perm (show List.Perm _ ((x :: y :: v :: (E ++ B)) ++ A) from by
    simp only [List.cons_append]
    exact List.Perm.cons _ (List.Perm.cons _ (List.Perm.cons _ (List.perm_append_comm.trans (List.Perm.append_right _ List.perm_append_comm)))))).keep (G := A) ⟨List.Perm.refl _⟩
theorem pi_grant {B D : Int} {t : St} {m : CS} {st : Int} (h : PI B D t m st) (hB : B + 4294967296 ≤ 1152921504606846976) {k q off n : Int} (hq : q = seqM st off ∧ m.una ≤ off ∧ off ≤ m.nxt) (hn : U n) : PI (B + 2147483648) D { t with s := sentP t.s k q n } (sentM m k off n) st := by
  have hf := h.hm.fl
  have := pi_sent (k := k) (d := off - m.una) h hB (by omega) hn
  rw [h.rel.una, seq_addI, show m.una + (off - m.una) = off by omega, ← hq.1] at this
  exact this
theorem apart_of3 {D : List Nat} {w0 w : World} {A B : List (Nat × Obj)} {x y v : Nat × Obj} (h : Has D w0 (x :: y :: v :: (A ++ B)) w) : ∀ z, z ∈ B → z.1 ∉ A.map Prod.fst := fun z hz hm => by
  have h1 := h.nodup
  simp only [List.map_cons, List.nodup_cons, List.map_append] at h1
  have h2 := h1.2.2.2
  rw [List.nodup_append] at h2
  exact h2.2.2 _ hm _ (List.mem_map.2 ⟨z, hz, rfl⟩) rfl
theorem apart_of4 {D : List Nat} {w0 w : World} {A B : List (Nat × Obj)} {x y v : Nat × Obj} (h : Has D w0 (x :: y :: v :: (A ++ B)) w) : ∀ z, z ∈ A → z.1 ∉ B.map Prod.fst := fun z hz hm => by
  have h1 := h.nodup
  simp only [List.map_cons, List.nodup_cons, List.map_append] at h1
  have h2 := h1.2.2.2
  rw [List.nodup_append] at h2
  exact h2.2.2 _ (List.mem_map.2 ⟨z, hz, rfl⟩) _ hm rfl
theorem has_ea {D : List Nat} {w0 w : World} {A B : List (Nat × Obj)} {x y v : Nat × Obj} (h : Has D w0 (x :: y :: v :: (A ++ B)) w) : Has D w0 (x :: y :: v :: B) w :=
  (h.perm (show List.Perm _ ((x :: y :: v :: B) ++ A) from by
    simp only [List.cons_append]
    exact List.Perm.cons _ (List.Perm.cons _ (List.Perm.cons _ List.perm_append_comm)))).keep (G := A) ⟨List.Perm.refl _⟩

end Go.Proofs.Qxb6500912aGreatDoor

import Derived.Test.Qxb6500908aGreatW6
namespace Go.Proofs.Qxb6500908aGreat
open Go.Eng
set_option linter.unusedVariables false
set_option linter.unusedSimpArgs false
theorem ifc102 : ifcT Tryz.prog 102 = true := by kernel_rfl
theorem icmp105 : intCmp Tryz.prog 105 = true := by kernel_rfl
theorem fld127_0 : fieldOk Tryz.prog 127 0 0 = true := by kernel_rfl
theorem one48 : oneOk Tryz.prog 48 = true := by kernel_rfl
theorem cal57 : callable Tryz.prog 57 = true := by kernel_rfl
theorem fld127_10 : fieldOk Tryz.prog 127 10 94 = true := by kernel_rfl
theorem sp_mono {P : Program} {f : FuncId} {args : Array Value} {F : List (Nat × Obj)} {R R' : Value → List (Nat × Obj) → Prop} (h : Sp P f args F R) (hm : ∀ v G, R v G → R' v G) : Sp P f args F R' := by
  intro w hp hM hn
  refine (h w hp hM hn).mono fun e W' hq => ?_
  cases e with
  | returned v =>
    obtain ⟨F', h1, h2⟩ := hq
    exact ⟨F', hm _ _ h1, h2⟩
  | _ => exact hq.elim

theorem stc_ph' (s : StV) : s.c[0 + 3 + 1]? = some (.int .u8 s.ph) := stc_4 s
theorem stc_fid' (s : StV) : s.c[0 + 3 + 0]? = some (.int .u32 s.fid) := stc_3 s
theorem stc_vd' (s : StV) : s.c[0 + 69]? = some (.map (some s.vb)) := stc_vd s
theorem stc_ep' (s : StV) : s.c[0 + 0]? = some (.int .u32 s.ep) := stc_0 s
theorem stc_vs' (s : StV) : s.c[0 + 1]? = some (.slice s.vp s.vs.length s.vc) := stc_1 s
theorem stc_is' (s : StV) : s.c[0 + 2]? = some (.slice s.ip s.is.length s.ic) := stc_2 s
theorem stc_nx' (s : StV) : (s.c.drop (0 + 3 + 2)).take 64 = s.fn.k := stc_net s
theorem stc_sph (s : StV) (p : Int) (l : List (Int × Value)) : setL s.c (0 + 3 + 1) [.int .u8 p] = StV.c { s with ph := p, vd := l } := rfl
theorem stc_sep (s : StV) (e : Int) : setL s.c (0 + 0) [.int .u32 e] = StV.c { s with ep := e } := rfl
theorem stc_svs (s : StV) (p : Option Addr) (vs : List Vr) (c : Nat) (E : List (Nat × Obj)) : setL s.c (0 + 1) [.slice p vs.length c] = StV.c { s with vp := p, vs := vs, vc := c, vE := E } := rfl
theorem stc_sis (s : StV) (p : Option Addr) (is : List Iv) (c : Nat) (E : List (Nat × Obj)) : setL s.c (0 + 2) [.slice p is.length c] = StV.c { s with ip := p, is := is, ic := c, iE := E } := rfl
theorem stc_sfl' (s : StV) (i p : Int) (n : NtV) : setL s.c (0 + 3) (.int .u32 i :: .int .u8 p :: n.k) = StV.c { s with fid := i, ph := p, fn := n } := stc_sfl s i p n
/-- the decision -/
def setlP (s : StP) (cm : Bool) : StP := { s with ph := if cm then 2 else 3, vd := fun i => if i = s.fid then some (if cm then 3 else 4) else s.vd i }
def vdC (cm : Bool) : Int := if cm then 3 else 4
def phC (cm : Bool) : Int := if cm then 2 else 3
def StV.setl (s : StV) (cm : Bool) : StV := { s with ph := phC cm, vd := mput s.vd s.fid (.int .u8 (vdC cm)) }
theorem setl_pl (s : StV) (cm : Bool) : (s.setl cm).pl = setlP s.pl cm := by
  unfold StV.setl StV.pl setlP
  simp only [StP.mk.injEq, true_and]
  refine ⟨rfl, ?_⟩
  funext i
  rw [mget_mput]
  split <;> rfl
theorem setl_ok {Z : List (Nat × Obj)} {s : StV} (h : s.ok Z) (cm : Bool) : (s.setl cm).ok Z := by
  refine ⟨h.ep, h.v, h.vo, h.vl, h.v1, h.i, h.io, h.il, h.fid, ?_, h.fn, fun i v e => ?_, (mput_k9 h.vk).1⟩
  · show 0 ≤ phC cm ∧ phC cm ≤ 3
    unfold phC; cases cm <;> simp
  · have e2 : mget (mput s.vd s.fid (.int .u8 (vdC cm))) i = some v := e
    rw [mget_mput] at e2
    split at e2
    · injection e2 with e2
      exact ⟨_, e2.symm, by unfold vdC; cases cm <;> simp, by unfold vdC; cases cm <;> simp⟩
    · exact h.vd i v e2
/-- a transaction of the gate's -/
def trP (nw : Bool) (l : LdP) (s : StP) : LdP × Nat := if nw then admitP l s else storeP l s
theorem trP_b (nw : Bool) (l : LdP) (s : StP) : (trP nw l s).2 = 0 ∨ (trP nw l s).2 = 1 ∨ (trP nw l s).2 = 2 := by
  have := storeP_b l s
  unfold trP
  split
  · unfold admitP
    split
    · exact .inr (.inr rfl)
    · split
      · exact .inr (.inl rfl)
      · omega
  · omega
def GtV.after (g : GtV) (s : StV) (e : Nat) : GtV := if e = 0 then { g with st := s } else if e = 2 then { g with off := true, out := [], op := none, oc := 0, oE := [] } else g
/-- the three answers -/
def Sto3 (Z : List (Nat × Obj)) (lb : Nat) (s : StV) (r : LdP × Nat) (v : Value) (F' : List (Nat × Obj)) : Prop :=
  (∃ l' : LdV, r.2 = 0 ∧ l'.ok Z ∧ l'.pl = r.1 ∧ v = .nilIface ∧ F' = LdV.F lb l' ++ s.E) ∨ (∃ l' : LdV, r.2 = 1 ∧ l'.ok Z ∧ l'.pl = r.1 ∧ v = .iface 105 (.int .u8 1) ∧ F' = LdV.F lb l' ++ s.E) ∨ (∃ l' : LdV, r.2 = 2 ∧ l'.ok Z ∧ l'.pl = r.1 ∧ v = .iface 105 (.int .u8 2) ∧ F' = LdV.F lb l' ++ s.E)
theorem sto3 {Z : List (Nat × Obj)} {lb : Nat} {s : StV} {r : LdP × Nat} {v : Value} {F' : List (Nat × Obj)} (hr : r.2 = 0 ∨ r.2 = 1 ∨ r.2 = 2) (h : StO Z lb s r v F') : Sto3 Z lb s r v F' := by
  obtain ⟨l', h1, h2, h3, h4⟩ := h
  rcases hr with e | e | e
  · exact .inl ⟨l', e, h1, h2, by rw [h3, e]; rfl, h4⟩
  · exact .inr (.inl ⟨l', e, h1, h2, by rw [h3, e]; rfl, h4⟩)
  · exact .inr (.inr ⟨l', e, h1, h2, by rw [h3, e]; rfl, h4⟩)


attribute [local irreducible] NtV.k StV.c LdV.c StV.E GtV.c GtV.t

set_option maxHeartbeats 2000000 in
theorem settle_spec (b : Nat) (s : StV) (cm : Bool) : Sp Tryz.prog 29 #[.pointer (some ⟨b, 0, none⟩), .bool cm] [(b, C (StV.c s) 89), (s.vb, MO (kInt .u32) s.vd)] (fun v F' => v = .tuple #[] ∧ F' = [(b, C (StV.c (s.setl cm)) 89), (s.vb, MO (kInt .u32) (mput s.vd s.fid (.int .u8 (vdC cm))))]) := by
  refine f_enter (args := [.pointer (some ⟨b, 0, none⟩), .bool cm]) Tryz.func29 rfl Tryz.ntmps29 rfl ?_
  intro w0 w a hpre hl hh
  simp only [slotsFrom, Nat.reduceAdd] at hl
  refine c_seq ?_
  refine c_region ?_
  refine wl (wl_val hl rfl trivial (r_move hl rfl) ?_)
  clear hl a; intro a hl
  refine w_nil ?_
  have hl2 := hl.add (t := 0) (hl.add (t := 4) (hl.nil) rfl) rfl; clear hl; have hl := hl2; clear hl2
  refine then_normal ?_
  refine c_cond hl rfl ?_ ?_
  · intro hc0
    try simp only [decide_eq_true_eq, decide_eq_false_iff_not, Bool.not_eq_true', Bool.not_eq_false', Bool.not_eq_true, Bool.not_eq_false, Bool.and_eq_true, Bool.or_eq_true, Bool.and_eq_false_iff, Bool.or_eq_false_iff, Bool.not_not, ne_eq, Int.not_lt, Int.not_le, Decidable.not_not, beq_iff_eq, bne_iff_ne] at hc0
    refine c_seq ?_
    refine c_region ?_
    refine wl (wl_val hl rfl trivial (r_move hl rfl) ?_)
    clear hl a; intro a hl
    refine wl (wl_val hl rfl trivial (r_nilCheck hl rfl) ?_)
    clear hl a; intro a hl
    refine wl (wl_val hl rfl trivial (r_field hl rfl fld89_3) ?_)
    clear hl a; intro a hl
    refine wl (wl_val hl rfl trivial (r_field hl rfl fld87_1) ?_)
    clear hl a; intro a hl
    refine wl (w_store hl hh trivial one76 rfl rfl (by repeat (first | exact find_head | apply find_tail)) (by first | (simp; done) | (simp; omega) | (rw [stc_len]; omega) | (rw [stc_len]; simp; done)) (by first | rfl | assumption | (apply Row.one; assumption)) (by first | exact stc_sph _ _ (mput s.vd s.fid (.int .u8 (vdC cm))) | (simp only [setL, List.getElem?_cons_zero, List.getElem?_cons_succ, Value.cells, List.take_zero, List.take_succ_cons, List.take_nil, List.drop_zero, List.drop_succ_cons, List.drop_nil, List.length_cons, List.length_nil, List.cons_append, List.nil_append, List.append_nil, Nat.zero_add, Nat.add_zero, Nat.reduceAdd, Nat.reduceBEq, Nat.reduceEqDiff, Nat.ble, BEq.rfl, Bool.and_true, Bool.and_self, cond_true, beq_self_eq_true]; rfl)) ?_)
    clear hh w; intro w hh
    refine w_nil ?_
    have hl2 := hl.add (t := 0) (hl.nil) rfl; clear hl; have hl := hl2; clear hl2
    refine then_normal ?_
    refine c_draw [(b, C (StV.c { s with ph := 2, vd := mput s.vd s.fid (.int .u8 (vdC cm)) }) 89)] [9] mixed hh ?_
    clear hh w; intro w hh
    have hM : Mem [(b, C (StV.c { s with ph := 2, vd := mput s.vd s.fid (.int .u8 (vdC cm)) }) 89)] w := (by (repeat (first | exact Mem.nil | refine Mem.cons hh.mem (by (repeat (first | exact find_head | apply find_tail)); done) ?_ | refine Mem.consR hh (by assumption) (by simp) ?_ | fail)); done)
    refine d_take (i := 0) hl rfl (by kernel_rfl) (by kernel_rfl) (by kernel_rfl) (by kernel_rfl) (by kernel_rfl) rfl trivial (fun _ _ _ h => h) hM (fun w hC => r_move hl rfl) rfl ?_
    clear hl a; intro a hl
    refine d_take (i := 1) hl rfl (by kernel_rfl) (by kernel_rfl) (by kernel_rfl) (by kernel_rfl) (by kernel_rfl) rfl trivial (fun _ _ _ h => h) hM (fun w hC => r_nilCheck hl rfl) rfl ?_
    clear hl a; intro a hl
    refine d_take (i := 2) hl rfl (by kernel_rfl) (by kernel_rfl) (by kernel_rfl) (by kernel_rfl) (by kernel_rfl) rfl trivial (fun _ _ _ h => h) hM (fun w hC => r_field hl rfl fld89_4) rfl ?_
    clear hl a; intro a hl
    refine d_take (i := 3) hl rfl (by kernel_rfl) (by kernel_rfl) (by kernel_rfl) (by kernel_rfl) (by kernel_rfl) rfl trivial (fun _ _ _ h => h) hM (fun w hC => r_loadC hl rfl one74 hC (by repeat (first | exact find_head | apply find_tail)) (by first | exact stc_ph' _ | exact stc_fid' _ | exact stc_vd' _ | exact stc_ep' _ | exact stc_vs' _ | exact stc_is' _ | rfl)) rfl ?_
    clear hl a; intro a hl
    refine d_take (i := 4) hl rfl (by kernel_rfl) (by kernel_rfl) (by kernel_rfl) (by kernel_rfl) (by kernel_rfl) rfl trivial (fun _ _ _ h => h) hM (fun w hC => r_move hl rfl) rfl ?_
    clear hl a; intro a hl
    refine d_take (i := 5) hl rfl (by kernel_rfl) (by kernel_rfl) (by kernel_rfl) (by kernel_rfl) (by kernel_rfl) rfl trivial (fun _ _ _ h => h) hM (fun w hC => r_nilCheck hl rfl) rfl ?_
    clear hl a; intro a hl
    refine d_take (i := 6) hl rfl (by kernel_rfl) (by kernel_rfl) (by kernel_rfl) (by kernel_rfl) (by kernel_rfl) rfl trivial (fun _ _ _ h => h) hM (fun w hC => r_field hl rfl fld89_3) rfl ?_
    clear hl a; intro a hl
    refine d_take (i := 7) hl rfl (by kernel_rfl) (by kernel_rfl) (by kernel_rfl) (by kernel_rfl) (by kernel_rfl) rfl trivial (fun _ _ _ h => h) hM (fun w hC => r_field hl rfl fld87_0) rfl ?_
    clear hl a; intro a hl
    refine d_take (i := 8) hl rfl (by kernel_rfl) (by kernel_rfl) (by kernel_rfl) (by kernel_rfl) (by kernel_rfl) rfl trivial (fun _ _ _ h => h) hM (fun w hC => r_loadC hl rfl one36 hC (by repeat (first | exact find_head | apply find_tail)) (by first | exact stc_ph' _ | exact stc_fid' _ | exact stc_vd' _ | exact stc_ep' _ | exact stc_vs' _ | exact stc_is' _ | rfl)) rfl ?_
    clear hl a; intro a hl
    refine d_one (i := 9) (by kernel_rfl) rfl ?_
    try clear hM
    refine id (w_mapUpdate (keyInt Tryz.underlying36) Tryz.underlying74 hl hh trivial rfl rfl rfl (by repeat (first | exact find_head | apply find_tail)) ?_)
    clear hh w; intro w hh
    refine d_step (fun h => absurd h (by decide)) ?_
    refine d_done (by kernel_rfl) ?_
    try clear hM
    have hl2 := hl.nil; clear hl; have hl := hl2; clear hl2
    simp only at hh
    refine f_end0 (F' := [(b, C (StV.c (s.setl cm)) 89), (s.vb, MO (kInt .u32) (mput s.vd s.fid (.int .u8 (vdC cm))))]) hl hh rfl (by repeat (first | exact keeps_nil | apply keeps_cons (by repeat (first | exact find_head | apply find_tail)) (by first  | (unfold StV.setl phC vdC; rw [hc0]; rfl) | (unfold vdC; rw [hc0]; rfl) | rfl) | exact keeps_self | apply keeps_mv)) ?_
    exact ⟨rfl, rfl⟩
  · intro hc0
    try simp only [decide_eq_true_eq, decide_eq_false_iff_not, Bool.not_eq_true', Bool.not_eq_false', Bool.not_eq_true, Bool.not_eq_false, Bool.and_eq_true, Bool.or_eq_true, Bool.and_eq_false_iff, Bool.or_eq_false_iff, Bool.not_not, ne_eq, Int.not_lt, Int.not_le, Decidable.not_not, beq_iff_eq, bne_iff_ne] at hc0
    refine c_seq ?_
    refine c_region ?_
    refine wl (wl_val hl rfl trivial (r_move hl rfl) ?_)
    clear hl a; intro a hl
    refine wl (wl_val hl rfl trivial (r_nilCheck hl rfl) ?_)
    clear hl a; intro a hl
    refine wl (wl_val hl rfl trivial (r_field hl rfl fld89_3) ?_)
    clear hl a; intro a hl
    refine wl (wl_val hl rfl trivial (r_field hl rfl fld87_1) ?_)
    clear hl a; intro a hl
    refine wl (w_store hl hh trivial one76 rfl rfl (by repeat (first | exact find_head | apply find_tail)) (by first | (simp; done) | (simp; omega) | (rw [stc_len]; omega) | (rw [stc_len]; simp; done)) (by first | rfl | assumption | (apply Row.one; assumption)) (by first | exact stc_sph _ _ (mput s.vd s.fid (.int .u8 (vdC cm))) | (simp only [setL, List.getElem?_cons_zero, List.getElem?_cons_succ, Value.cells, List.take_zero, List.take_succ_cons, List.take_nil, List.drop_zero, List.drop_succ_cons, List.drop_nil, List.length_cons, List.length_nil, List.cons_append, List.nil_append, List.append_nil, Nat.zero_add, Nat.add_zero, Nat.reduceAdd, Nat.reduceBEq, Nat.reduceEqDiff, Nat.ble, BEq.rfl, Bool.and_true, Bool.and_self, cond_true, beq_self_eq_true]; rfl)) ?_)
    clear hh w; intro w hh
    refine w_nil ?_
    have hl2 := hl.add (t := 0) (hl.nil) rfl; clear hl; have hl := hl2; clear hl2
    refine then_normal ?_
    refine c_draw [(b, C (StV.c { s with ph := 3, vd := mput s.vd s.fid (.int .u8 (vdC cm)) }) 89)] [9] mixed hh ?_
    clear hh w; intro w hh
    have hM : Mem [(b, C (StV.c { s with ph := 3, vd := mput s.vd s.fid (.int .u8 (vdC cm)) }) 89)] w := (by (repeat (first | exact Mem.nil | refine Mem.cons hh.mem (by (repeat (first | exact find_head | apply find_tail)); done) ?_ | refine Mem.consR hh (by assumption) (by simp) ?_ | fail)); done)
    refine d_take (i := 0) hl rfl (by kernel_rfl) (by kernel_rfl) (by kernel_rfl) (by kernel_rfl) (by kernel_rfl) rfl trivial (fun _ _ _ h => h) hM (fun w hC => r_move hl rfl) rfl ?_
    clear hl a; intro a hl
    refine d_take (i := 1) hl rfl (by kernel_rfl) (by kernel_rfl) (by kernel_rfl) (by kernel_rfl) (by kernel_rfl) rfl trivial (fun _ _ _ h => h) hM (fun w hC => r_nilCheck hl rfl) rfl ?_
    clear hl a; intro a hl
    refine d_take (i := 2) hl rfl (by kernel_rfl) (by kernel_rfl) (by kernel_rfl) (by kernel_rfl) (by kernel_rfl) rfl trivial (fun _ _ _ h => h) hM (fun w hC => r_field hl rfl fld89_4) rfl ?_
    clear hl a; intro a hl
    refine d_take (i := 3) hl rfl (by kernel_rfl) (by kernel_rfl) (by kernel_rfl) (by kernel_rfl) (by kernel_rfl) rfl trivial (fun _ _ _ h => h) hM (fun w hC => r_loadC hl rfl one74 hC (by repeat (first | exact find_head | apply find_tail)) (by first | exact stc_ph' _ | exact stc_fid' _ | exact stc_vd' _ | exact stc_ep' _ | exact stc_vs' _ | exact stc_is' _ | rfl)) rfl ?_
    clear hl a; intro a hl
    refine d_take (i := 4) hl rfl (by kernel_rfl) (by kernel_rfl) (by kernel_rfl) (by kernel_rfl) (by kernel_rfl) rfl trivial (fun _ _ _ h => h) hM (fun w hC => r_move hl rfl) rfl ?_
    clear hl a; intro a hl
    refine d_take (i := 5) hl rfl (by kernel_rfl) (by kernel_rfl) (by kernel_rfl) (by kernel_rfl) (by kernel_rfl) rfl trivial (fun _ _ _ h => h) hM (fun w hC => r_nilCheck hl rfl) rfl ?_
    clear hl a; intro a hl
    refine d_take (i := 6) hl rfl (by kernel_rfl) (by kernel_rfl) (by kernel_rfl) (by kernel_rfl) (by kernel_rfl) rfl trivial (fun _ _ _ h => h) hM (fun w hC => r_field hl rfl fld89_3) rfl ?_
    clear hl a; intro a hl
    refine d_take (i := 7) hl rfl (by kernel_rfl) (by kernel_rfl) (by kernel_rfl) (by kernel_rfl) (by kernel_rfl) rfl trivial (fun _ _ _ h => h) hM (fun w hC => r_field hl rfl fld87_0) rfl ?_
    clear hl a; intro a hl
    refine d_take (i := 8) hl rfl (by kernel_rfl) (by kernel_rfl) (by kernel_rfl) (by kernel_rfl) (by kernel_rfl) rfl trivial (fun _ _ _ h => h) hM (fun w hC => r_loadC hl rfl one36 hC (by repeat (first | exact find_head | apply find_tail)) (by first | exact stc_ph' _ | exact stc_fid' _ | exact stc_vd' _ | exact stc_ep' _ | exact stc_vs' _ | exact stc_is' _ | rfl)) rfl ?_
    clear hl a; intro a hl
    refine d_one (i := 9) (by kernel_rfl) rfl ?_
    try clear hM
    refine id (w_mapUpdate (keyInt Tryz.underlying36) Tryz.underlying74 hl hh trivial rfl rfl rfl (by repeat (first | exact find_head | apply find_tail)) ?_)
    clear hh w; intro w hh
    refine d_step (fun h => absurd h (by decide)) ?_
    refine d_done (by kernel_rfl) ?_
    try clear hM
    have hl2 := hl.nil; clear hl; have hl := hl2; clear hl2
    simp only at hh
    refine f_end0 (F' := [(b, C (StV.c (s.setl cm)) 89), (s.vb, MO (kInt .u32) (mput s.vd s.fid (.int .u8 (vdC cm))))]) hl hh rfl (by repeat (first | exact keeps_nil | apply keeps_cons (by repeat (first | exact find_head | apply find_tail)) (by first  | (unfold StV.setl phC vdC; rw [hc0]; rfl) | (unfold vdC; rw [hc0]; rfl) | rfl) | exact keeps_self | apply keeps_mv)) ?_
    exact ⟨rfl, rfl⟩

set_option maxHeartbeats 1000000 in
theorem refusal_spec (e : Nat) (he : e = 0 ∨ e = 1 ∨ e = 2) : Sp Tryz.prog 45 #[errV e] [] (fun v F' => v = .int .u8 (if e = 0 then 0 else if e = 1 then 11 else 14) ∧ F' = []) := by
  refine f_enter (args := [errV e]) Tryz.func45 rfl Tryz.ntmps45 rfl ?_
  intro w0 w a hpre hl hh
  have herr : errV 0 = .nilIface ∧ errV 1 = .iface 105 (.int .u8 1) ∧ errV 2 = .iface 105 (.int .u8 2) := ⟨rfl, rfl, rfl⟩
  simp only [slotsFrom, Nat.reduceAdd] at hl
  refine c_seq ?_
  refine c_region ?_
  refine wl (wl_val hl rfl trivial (r_assign hl rfl) ?_)
  clear hl a; intro a hl
  refine w_nil ?_
  have hl2 := hl.add (t := 0) (hl.nil) rfl; clear hl; have hl := hl2; clear hl2
  refine then_normal ?_
  refine c_seq ?_
  refine c_seq ?_
  rcases he with rfl | rfl | rfl
  ·
    refine c_region ?_
    refine wl (wl_val hl rfl trivial (r_move hl rfl) ?_)
    clear hl a; intro a hl
    first | rw [herr.1] at hl | rw [herr.2.1] at hl | rw [herr.2.2] at hl
    refine w_nil ?_
    have hl2 := hl.add (t := 3) (hl.nil) rfl; clear hl; have hl := hl2; clear hl2
    refine then_normal ?_
    refine wp_block ?_
    refine c_seq ?_
    refine c_region ?_
    first | refine wl (wl_val hl rfl trivial (r_eql_ifcN hl rfl ifc102) ?_) | refine wl (wl_val hl rfl trivial (r_eql_ifcS hl rfl ifc102) ?_)
    clear hl a; intro a hl
    refine wl (wl_val hl rfl trivial (r_assign hl rfl) ?_)
    clear hl a; intro a hl
    refine w_nil ?_
    have hl2 := hl.add (t := 3) (hl.add (t := 4) (hl.nil) rfl) rfl; clear hl; have hl := hl2; clear hl2
    refine then_normal ?_
    refine c_condT hl rfl ?_
    refine c_seq ?_
    refine c_region ?_
    refine wl (wl_val hl rfl trivial (r_assign hl rfl) ?_)
    clear hl a; intro a hl
    refine w_nil ?_
    have hl2 := hl.add (t := 2) (hl.nil) rfl; clear hl; have hl := hl2; clear hl2
    refine then_normal ?_
    refine wp_ret ?_
    refine blk_ret ?_
    refine then_ret ?_
    refine f_ret1 (F' := []) hl hh rfl rfl (by repeat (first | exact keeps_nil | apply keeps_cons (by repeat (first | exact find_head | apply find_tail)) (by first  | rfl) | exact keeps_self | apply keeps_mv)) ?_
    exact ⟨rfl, rfl⟩
  ·
    refine c_region ?_
    refine wl (wl_val hl rfl trivial (r_move hl rfl) ?_)
    clear hl a; intro a hl
    first | rw [herr.1] at hl | rw [herr.2.1] at hl | rw [herr.2.2] at hl
    refine w_nil ?_
    have hl2 := hl.add (t := 3) (hl.nil) rfl; clear hl; have hl := hl2; clear hl2
    refine then_normal ?_
    refine wp_block ?_
    refine c_seq ?_
    refine c_region ?_
    first | refine wl (wl_val hl rfl trivial (r_eql_ifcN hl rfl ifc102) ?_) | refine wl (wl_val hl rfl trivial (r_eql_ifcS hl rfl ifc102) ?_)
    clear hl a; intro a hl
    refine wl (wl_val hl rfl trivial (r_assign hl rfl) ?_)
    clear hl a; intro a hl
    refine w_nil ?_
    have hl2 := hl.add (t := 3) (hl.add (t := 4) (hl.nil) rfl) rfl; clear hl; have hl := hl2; clear hl2
    refine then_normal ?_
    refine c_condF hl rfl ?_
    refine c_seq ?_
    refine c_region ?_
    refine wl (wl_val hl rfl trivial (r_makeInterface hl rfl conc105) ?_)
    clear hl a; intro a hl
    refine wl (wl_val hl rfl trivial (r_eql_ifcI hl rfl rfl ifc102 icmp105) ?_)
    clear hl a; intro a hl
    refine wl (wl_val hl rfl trivial (r_assign hl rfl) ?_)
    clear hl a; intro a hl
    refine w_nil ?_
    have hl2 := hl.add (t := 6) (hl.nil) rfl; clear hl; have hl := hl2; clear hl2
    refine then_normal ?_
    refine c_condT hl rfl ?_
    refine c_seq ?_
    refine c_region ?_
    refine wl (wl_val hl rfl trivial (r_assign hl rfl) ?_)
    clear hl a; intro a hl
    refine w_nil ?_
    have hl2 := hl.add (t := 2) (hl.nil) rfl; clear hl; have hl := hl2; clear hl2
    refine then_normal ?_
    refine wp_ret ?_
    refine blk_ret ?_
    refine then_ret ?_
    refine f_ret1 (F' := []) hl hh rfl rfl (by repeat (first | exact keeps_nil | apply keeps_cons (by repeat (first | exact find_head | apply find_tail)) (by first  | rfl) | exact keeps_self | apply keeps_mv)) ?_
    exact ⟨rfl, rfl⟩
  ·
    refine c_region ?_
    refine wl (wl_val hl rfl trivial (r_move hl rfl) ?_)
    clear hl a; intro a hl
    first | rw [herr.1] at hl | rw [herr.2.1] at hl | rw [herr.2.2] at hl
    refine w_nil ?_
    have hl2 := hl.add (t := 3) (hl.nil) rfl; clear hl; have hl := hl2; clear hl2
    refine then_normal ?_
    refine wp_block ?_
    refine c_seq ?_
    refine c_region ?_
    first | refine wl (wl_val hl rfl trivial (r_eql_ifcN hl rfl ifc102) ?_) | refine wl (wl_val hl rfl trivial (r_eql_ifcS hl rfl ifc102) ?_)
    clear hl a; intro a hl
    refine wl (wl_val hl rfl trivial (r_assign hl rfl) ?_)
    clear hl a; intro a hl
    refine w_nil ?_
    have hl2 := hl.add (t := 3) (hl.add (t := 4) (hl.nil) rfl) rfl; clear hl; have hl := hl2; clear hl2
    refine then_normal ?_
    refine c_condF hl rfl ?_
    refine c_seq ?_
    refine c_region ?_
    refine wl (wl_val hl rfl trivial (r_makeInterface hl rfl conc105) ?_)
    clear hl a; intro a hl
    refine wl (wl_val hl rfl trivial (r_eql_ifcI hl rfl rfl ifc102 icmp105) ?_)
    clear hl a; intro a hl
    refine wl (wl_val hl rfl trivial (r_assign hl rfl) ?_)
    clear hl a; intro a hl
    refine w_nil ?_
    have hl2 := hl.add (t := 6) (hl.nil) rfl; clear hl; have hl := hl2; clear hl2
    refine then_normal ?_
    refine c_condF hl rfl ?_
    refine wp_skip ?_
    refine blk_normal ?_
    refine then_normal ?_
    refine c_seq ?_
    refine c_region ?_
    refine wl (wl_val hl rfl trivial (r_assign hl rfl) ?_)
    clear hl a; intro a hl
    refine w_nil ?_
    have hl2 := hl.add (t := 2) (hl.nil) rfl; clear hl; have hl := hl2; clear hl2
    refine then_normal ?_
    refine wp_ret ?_
    refine f_ret1 (F' := []) hl hh rfl rfl (by repeat (first | exact keeps_nil | apply keeps_cons (by repeat (first | exact find_head | apply find_tail)) (by first  | rfl) | exact keeps_self | apply keeps_mv)) ?_
    exact ⟨rfl, rfl⟩

set_option maxHeartbeats 4000000 in
theorem gstore_spec (Z : List (Nat × Obj)) (gb : Nat) (g : GtV) (l : LdV) (hl9 : l.ok Z) (s : StV) (hs : s.ok Z) (nw : Bool) : Sp Tryz.prog 46 #[.pointer (some ⟨gb, 0, none⟩), .agg ⟨s.c⟩, .bool nw] ((gb, C (GtV.c g) 127) :: (LdV.F g.led l ++ s.E)) (fun v F' => ∃ l' : LdV, l'.ok Z ∧ l'.pl = (trP nw l.pl s.pl).1 ∧ v = errV (trP nw l.pl s.pl).2 ∧ F' = (gb, C (GtV.c (g.after s (trP nw l.pl s.pl).2)) 127) :: (LdV.F g.led l' ++ s.E)) := by
  refine f_enter (args := [.pointer (some ⟨gb, 0, none⟩), .agg ⟨s.c⟩, .bool nw]) Tryz.func46 rfl Tryz.ntmps46 rfl ?_
  intro w0 w a hpre hl hh
  generalize hDD : List.map Prod.fst ((gb, C (GtV.c g) 127) :: (LdV.F g.led l ++ s.E)) = D at hh ⊢
  simp only [LdV.F, List.cons_append] at hh
  simp only [slotsFrom, Nat.reduceAdd] at hl
  refine c_seq ?_
  refine c_region ?_
  refine wl (w_box hl hh rfl trivial rfl rfl ?_)
  clear hl hh a w; intro k4 a w hl hh
  refine wl (wl_val hl rfl trivial (r_assign hl rfl) ?_)
  clear hl a; intro a hl
  refine w_nil ?_
  have hl2 := hl.add (t := 0) (hl.add (t := 2) (hl.add (t := 4) (hl.nil) rfl) rfl) rfl; clear hl; have hl := hl2; clear hl2
  refine then_normal ?_
  refine c_seq ?_
  refine c_region ?_
  refine wl (wl_val hl rfl trivial (r_assign hl rfl) ?_)
  clear hl a; intro a hl
  refine w_nil ?_
  have hl2 := hl.add (t := 0) (hl.add (t := 2) (hl.add (t := 4) (hl.nil) rfl) rfl) rfl; clear hl; have hl := hl2; clear hl2
  refine then_normal ?_
  refine c_seq ?_
  refine c_seq ?_
  refine c_region ?_
  refine wl (wl_val hl rfl trivial (r_move hl rfl) ?_)
  clear hl a; intro a hl
  refine w_nil ?_
  have hl2 := hl.add (t := 0) (hl.add (t := 4) (hl.add (t := 8) (hl.nil) rfl) rfl) rfl; clear hl; have hl := hl2; clear hl2
  refine then_normal ?_
  refine c_cond hl rfl ?_ ?_
  · intro hc0
    try simp only [decide_eq_true_eq, decide_eq_false_iff_not, Bool.not_eq_true', Bool.not_eq_false', Bool.not_eq_true, Bool.not_eq_false, Bool.and_eq_true, Bool.or_eq_true, Bool.and_eq_false_iff, Bool.or_eq_false_iff, Bool.not_not, ne_eq, Int.not_lt, Int.not_le, Decidable.not_not, beq_iff_eq, bne_iff_ne] at hc0
    subst hc0
    refine c_draw [(gb, C g.c 127), (k4, C s.c 89)] [5, 6] mixed hh ?_
    clear hh w; intro w hh
    have hM : Mem [(gb, C g.c 127), (k4, C s.c 89)] w := (memK hh (by repeat (first | exact keeps_nil | apply keeps_cons (by repeat (first | exact find_head | apply find_tail | apply find_skip)) (by first  | rfl) | exact keeps_self | exact keeps_left | apply keeps_app | apply keeps_mv | apply keeps_skip)))
    refine d_take (i := 0) hl rfl (by kernel_rfl) (by kernel_rfl) (by kernel_rfl) (by kernel_rfl) (by kernel_rfl) rfl trivial (fun _ _ _ h => h) hM (fun w hC => r_move hl rfl) rfl ?_
    clear hl a; intro a hl
    refine d_take (i := 1) hl rfl (by kernel_rfl) (by kernel_rfl) (by kernel_rfl) (by kernel_rfl) (by kernel_rfl) rfl trivial (fun _ _ _ h => h) hM (fun w hC => r_nilCheck hl rfl) rfl ?_
    clear hl a; intro a hl
    refine d_take (i := 2) hl rfl (by kernel_rfl) (by kernel_rfl) (by kernel_rfl) (by kernel_rfl) (by kernel_rfl) rfl trivial (fun _ _ _ h => h) hM (fun w hC => r_field hl rfl fld127_0) rfl ?_
    clear hl a; intro a hl
    refine d_take (i := 3) hl rfl (by kernel_rfl) (by kernel_rfl) (by kernel_rfl) (by kernel_rfl) (by kernel_rfl) rfl trivial (fun _ _ _ h => h) hM (fun w hC => r_loadC hl rfl one48 hC (by repeat (first | exact find_head | apply find_tail | apply find_skip)) (by first | exact gtc_led _ | exact gtc_ep _ | exact gtc_vs _ | exact gtc_is _ | exact gtc_fid _ | exact gtc_ph _ | exact gtc_vd _ | exact gtc_q _ | exact gtc_rf _ | exact gtc_ys _ | exact gtc_dn _ | exact gtc_tk _ | exact gtc_au _ | exact gtc_o _ | exact gtc_off _ | rfl)) rfl ?_
    clear hl a; intro a hl
    refine d_take (i := 4) hl rfl (by kernel_rfl) (by kernel_rfl) (by kernel_rfl) (by kernel_rfl) (by kernel_rfl) rfl trivial (fun _ _ _ h => h) hM (fun w hC => r_loadCA hl rfl agg89 hC (by repeat (first | exact find_head | apply find_tail | apply find_skip)) (by exact stc_all _) (by exact stc_len _)) rfl ?_
    clear hl a; intro a hl
    refine d_one (i := 5) (by kernel_rfl) rfl ?_
    try clear hM
    refine id (w_call hl hh rfl trivial rfl cal57 rfl (sp_mono (admit_spec Z g.led l hl9 s hs) (fun v G h => sto3 (trP_b true l.pl s.pl) h)) (by repeat (first | exact keeps_nil | apply keeps_cons (by repeat (first | exact find_head | apply find_tail | apply find_skip)) (by first  | rfl) | exact keeps_self | exact keeps_left | apply keeps_app | apply keeps_mv | apply keeps_skip)) trivial ?_)
    clear hl hh a w; intro vc Fc a w hR hl hh
    refine d_step (fun h => absurd h (by decide)) ?_
    refine d_takeL (i := 6) hl rfl (by kernel_rfl) (by kernel_rfl) (by kernel_rfl) (by kernel_rfl) (by kernel_rfl) rfl trivial (fun _ _ _ h => h) (fun w => r_assign hl rfl) rfl ?_
    clear hl a; intro a hl
    refine d_done (by kernel_rfl) ?_
    try clear hM
    have hl2 := hl.add (t := 0) (hl.add (t := 4) (hl.add (t := 7) (hl.nil) rfl) rfl) rfl; clear hl; have hl := hl2; clear hl2
    refine then_normal ?_
    refine c_seq ?_
    refine c_seq ?_
    refine c_region ?_
    refine wl (wl_val hl rfl trivial (r_move hl rfl) ?_)
    clear hl a; intro a hl
    rcases hR with ⟨l', hr, hl', hp', rfl, rfl⟩ | ⟨l', hr, hl', hp', rfl, rfl⟩ | ⟨l', hr, hl', hp', rfl, rfl⟩
    ·
      try simp only [List.cons_append, List.nil_append, List.append_nil] at hh
      try simp only [LdV.F, List.append_assoc, List.cons_append] at hh
      refine w_nil ?_
      have hl2 := hl.add (t := 0) (hl.add (t := 4) (hl.add (t := 7) (hl.add (t := 21) (hl.nil) rfl) rfl) rfl) rfl; clear hl; have hl := hl2; clear hl2
      refine then_normal ?_
      refine wp_block ?_
      refine c_seq ?_
      refine c_region ?_
      first | refine wl (wl_val hl rfl trivial (r_eql_ifcN hl rfl ifc102) ?_) | refine wl (wl_val hl rfl trivial (r_eql_ifcS hl rfl ifc102) ?_)
      clear hl a; intro a hl
      refine wl (wl_val hl rfl trivial (r_assign hl rfl) ?_)
      clear hl a; intro a hl
      refine w_nil ?_
      have hl2 := hl.add (t := 0) (hl.add (t := 4) (hl.add (t := 7) (hl.add (t := 21) (hl.add (t := 22) (hl.nil) rfl) rfl) rfl) rfl) rfl; clear hl; have hl := hl2; clear hl2
      refine then_normal ?_
      refine c_condT hl rfl ?_
      refine c_region ?_
      refine wl (wl_val hl rfl trivial (r_move hl rfl) ?_)
      clear hl a; intro a hl
      refine wl (w_loadA hl hh rfl trivial agg89 rfl (by repeat (first | exact find_head | apply find_tail | apply find_skip)) (by exact stc_all _) (by exact stc_len _) ?_)
      clear hl a; intro a hl
      refine wl (wl_val hl rfl trivial (r_nilCheck hl rfl) ?_)
      clear hl a; intro a hl
      refine wl (wl_val hl rfl trivial (r_field hl rfl fld127_1) ?_)
      clear hl a; intro a hl
      refine wl (w_storeA hl hh trivial agg89 rfl rfl (by repeat (first | exact find_head | apply find_tail | apply find_skip)) (by exact stc_len _) (by (rw [gtc_len]; omega)) (by exact stc_one _) (by exact gtc_sst _ _) ?_)
      clear hh w; intro w hh
      refine w_nil ?_
      have hl2 := hl.add (t := 7) (hl.nil) rfl; clear hl; have hl := hl2; clear hl2
      refine blk_normal ?_
      refine then_normal ?_
      refine c_seq ?_
      refine c_region ?_
      refine wl (wl_val hl rfl trivial (r_move hl rfl) ?_)
      clear hl a; intro a hl
      refine wl (wl_val hl rfl trivial (r_assign hl rfl) ?_)
      clear hl a; intro a hl
      refine w_nil ?_
      have hl2 := hl.add (t := 6) (hl.nil) rfl; clear hl; have hl := hl2; clear hl2
      refine then_normal ?_
      refine wp_ret ?_
      first
      | (refine f_ret1 (F' := (gb, C (GtV.c { g with st := s }) 127) :: ((g.led, C l'.c 91) :: (l'.d.E ++ s.E))) hl hh rfl rfl (by repeat (first | exact keeps_nil | apply keeps_cons (by repeat (first | exact find_head | apply find_tail | apply find_skip)) (by first  | rfl) | exact keeps_self | exact keeps_left | apply keeps_app | apply keeps_mv | apply keeps_skip)) ?_; exact ⟨l', hl', hp', by rw [hr]; rfl, by rw [hr]; rfl⟩)
      | (refine f_ret1 (F' := (gb, C (GtV.c { g with off := true, out := [], op := none, oc := 0, oE := [] }) 127) :: ((g.led, C l'.c 91) :: (l'.d.E ++ s.E))) hl hh rfl rfl (by repeat (first | exact keeps_nil | apply keeps_cons (by repeat (first | exact find_head | apply find_tail | apply find_skip)) (by first  | rfl) | exact keeps_self | exact keeps_left | apply keeps_app | apply keeps_mv | apply keeps_skip)) ?_; exact ⟨l', hl', hp', by rw [hr]; rfl, by rw [hr]; rfl⟩)
      | (refine f_ret1 (F' := (gb, C (GtV.c g) 127) :: ((g.led, C l'.c 91) :: (l'.d.E ++ s.E))) hl hh rfl rfl (by repeat (first | exact keeps_nil | apply keeps_cons (by repeat (first | exact find_head | apply find_tail | apply find_skip)) (by first  | rfl) | exact keeps_self | exact keeps_left | apply keeps_app | apply keeps_mv | apply keeps_skip)) ?_; exact ⟨l', hl', hp', by rw [hr]; rfl, by rw [hr]; rfl⟩)
    ·
      try simp only [List.cons_append, List.nil_append, List.append_nil] at hh
      try simp only [LdV.F, List.append_assoc, List.cons_append] at hh
      refine w_nil ?_
      have hl2 := hl.add (t := 0) (hl.add (t := 4) (hl.add (t := 7) (hl.add (t := 21) (hl.nil) rfl) rfl) rfl) rfl; clear hl; have hl := hl2; clear hl2
      refine then_normal ?_
      refine wp_block ?_
      refine c_seq ?_
      refine c_region ?_
      first | refine wl (wl_val hl rfl trivial (r_eql_ifcN hl rfl ifc102) ?_) | refine wl (wl_val hl rfl trivial (r_eql_ifcS hl rfl ifc102) ?_)
      clear hl a; intro a hl
      refine wl (wl_val hl rfl trivial (r_assign hl rfl) ?_)
      clear hl a; intro a hl
      refine w_nil ?_
      have hl2 := hl.add (t := 0) (hl.add (t := 4) (hl.add (t := 7) (hl.add (t := 21) (hl.add (t := 22) (hl.nil) rfl) rfl) rfl) rfl) rfl; clear hl; have hl := hl2; clear hl2
      refine then_normal ?_
      refine c_condF hl rfl ?_
      refine c_seq ?_
      refine c_region ?_
      refine wl (wl_val hl rfl trivial (r_makeInterface hl rfl conc105) ?_)
      clear hl a; intro a hl
      refine wl (wl_val hl rfl trivial (r_eql_ifcI hl rfl rfl ifc102 icmp105) ?_)
      clear hl a; intro a hl
      refine wl (wl_val hl rfl trivial (r_assign hl rfl) ?_)
      clear hl a; intro a hl
      refine w_nil ?_
      have hl2 := hl.add (t := 0) (hl.add (t := 7) (hl.add (t := 28) (hl.nil) rfl) rfl) rfl; clear hl; have hl := hl2; clear hl2
      refine then_normal ?_
      refine c_condF hl rfl ?_
      refine wp_skip ?_
      refine blk_normal ?_
      refine then_normal ?_
      refine c_seq ?_
      refine c_region ?_
      refine wl (wl_val hl rfl trivial (r_move hl rfl) ?_)
      clear hl a; intro a hl
      refine wl (wl_val hl rfl trivial (r_assign hl rfl) ?_)
      clear hl a; intro a hl
      refine w_nil ?_
      have hl2 := hl.add (t := 6) (hl.nil) rfl; clear hl; have hl := hl2; clear hl2
      refine then_normal ?_
      refine wp_ret ?_
      first
      | (refine f_ret1 (F' := (gb, C (GtV.c { g with st := s }) 127) :: ((g.led, C l'.c 91) :: (l'.d.E ++ s.E))) hl hh rfl rfl (by repeat (first | exact keeps_nil | apply keeps_cons (by repeat (first | exact find_head | apply find_tail | apply find_skip)) (by first  | rfl) | exact keeps_self | exact keeps_left | apply keeps_app | apply keeps_mv | apply keeps_skip)) ?_; exact ⟨l', hl', hp', by rw [hr]; rfl, by rw [hr]; rfl⟩)
      | (refine f_ret1 (F' := (gb, C (GtV.c { g with off := true, out := [], op := none, oc := 0, oE := [] }) 127) :: ((g.led, C l'.c 91) :: (l'.d.E ++ s.E))) hl hh rfl rfl (by repeat (first | exact keeps_nil | apply keeps_cons (by repeat (first | exact find_head | apply find_tail | apply find_skip)) (by first  | rfl) | exact keeps_self | exact keeps_left | apply keeps_app | apply keeps_mv | apply keeps_skip)) ?_; exact ⟨l', hl', hp', by rw [hr]; rfl, by rw [hr]; rfl⟩)
      | (refine f_ret1 (F' := (gb, C (GtV.c g) 127) :: ((g.led, C l'.c 91) :: (l'.d.E ++ s.E))) hl hh rfl rfl (by repeat (first | exact keeps_nil | apply keeps_cons (by repeat (first | exact find_head | apply find_tail | apply find_skip)) (by first  | rfl) | exact keeps_self | exact keeps_left | apply keeps_app | apply keeps_mv | apply keeps_skip)) ?_; exact ⟨l', hl', hp', by rw [hr]; rfl, by rw [hr]; rfl⟩)
    ·
      try simp only [List.cons_append, List.nil_append, List.append_nil] at hh
      try simp only [LdV.F, List.append_assoc, List.cons_append] at hh
      refine w_nil ?_
      have hl2 := hl.add (t := 0) (hl.add (t := 4) (hl.add (t := 7) (hl.add (t := 21) (hl.nil) rfl) rfl) rfl) rfl; clear hl; have hl := hl2; clear hl2
      refine then_normal ?_
      refine wp_block ?_
      refine c_seq ?_
      refine c_region ?_
      first | refine wl (wl_val hl rfl trivial (r_eql_ifcN hl rfl ifc102) ?_) | refine wl (wl_val hl rfl trivial (r_eql_ifcS hl rfl ifc102) ?_)
      clear hl a; intro a hl
      refine wl (wl_val hl rfl trivial (r_assign hl rfl) ?_)
      clear hl a; intro a hl
      refine w_nil ?_
      have hl2 := hl.add (t := 0) (hl.add (t := 4) (hl.add (t := 7) (hl.add (t := 21) (hl.add (t := 22) (hl.nil) rfl) rfl) rfl) rfl) rfl; clear hl; have hl := hl2; clear hl2
      refine then_normal ?_
      refine c_condF hl rfl ?_
      refine c_seq ?_
      refine c_region ?_
      refine wl (wl_val hl rfl trivial (r_makeInterface hl rfl conc105) ?_)
      clear hl a; intro a hl
      refine wl (wl_val hl rfl trivial (r_eql_ifcI hl rfl rfl ifc102 icmp105) ?_)
      clear hl a; intro a hl
      refine wl (wl_val hl rfl trivial (r_assign hl rfl) ?_)
      clear hl a; intro a hl
      refine w_nil ?_
      have hl2 := hl.add (t := 0) (hl.add (t := 7) (hl.add (t := 28) (hl.nil) rfl) rfl) rfl; clear hl; have hl := hl2; clear hl2
      refine then_normal ?_
      refine c_condT hl rfl ?_
      refine c_seq ?_
      refine c_region ?_
      refine wl (wl_val hl rfl trivial (r_move hl rfl) ?_)
      clear hl a; intro a hl
      refine wl (wl_val hl rfl trivial (r_nilCheck hl rfl) ?_)
      clear hl a; intro a hl
      refine wl (wl_val hl rfl trivial (r_field hl rfl fld127_10) ?_)
      clear hl a; intro a hl
      refine wl (w_store hl hh trivial one4 rfl rfl (by repeat (first | exact find_head | apply find_tail | apply find_skip)) (by first | (simp; done) | (simp; omega) | (rw [gtc_len]; omega) | (rw [gtc_len]; simp; done)) (by first | rfl | assumption | (apply Row.one; assumption)) (by first | exact gtc_sys _ _ | exact gtc_sdn _ _ | exact gtc_stk _ _ | exact gtc_sau _ _ | exact gtc_soff _ _ | exact gtc_so _ none [] 0 [] | (simp only [setL, List.getElem?_cons_zero, List.getElem?_cons_succ, Value.cells, List.take_zero, List.take_succ_cons, List.take_nil, List.drop_zero, List.drop_succ_cons, List.drop_nil, List.length_cons, List.length_nil, List.cons_append, List.nil_append, List.append_nil, Nat.zero_add, Nat.add_zero, Nat.reduceAdd, Nat.reduceBEq, Nat.reduceEqDiff, Nat.ble, BEq.rfl, Bool.and_true, Bool.and_self, cond_true, beq_self_eq_true]; rfl)) ?_)
      clear hh w; intro w hh
      refine w_nil ?_
      have hl2 := hl.add (t := 0) (hl.add (t := 7) (hl.nil) rfl) rfl; clear hl; have hl := hl2; clear hl2
      refine then_normal ?_
      refine c_region ?_
      refine wl (wl_val hl rfl trivial (r_move hl rfl) ?_)
      clear hl a; intro a hl
      refine wl (wl_val hl rfl trivial (r_nilCheck hl rfl) ?_)
      clear hl a; intro a hl
      refine wl (wl_val hl rfl trivial (r_field hl rfl fld127_9) ?_)
      clear hl a; intro a hl
      refine wl (w_store hl hh trivial one53 rfl rfl (by repeat (first | exact find_head | apply find_tail | apply find_skip)) (by first | (simp; done) | (simp; omega) | (rw [gtc_len]; omega) | (rw [gtc_len]; simp; done)) (by first | rfl | assumption | (apply Row.one; assumption)) (by first | exact gtc_sys _ _ | exact gtc_sdn _ _ | exact gtc_stk _ _ | exact gtc_sau _ _ | exact gtc_soff _ _ | exact gtc_so _ none [] 0 [] | (simp only [setL, List.getElem?_cons_zero, List.getElem?_cons_succ, Value.cells, List.take_zero, List.take_succ_cons, List.take_nil, List.drop_zero, List.drop_succ_cons, List.drop_nil, List.length_cons, List.length_nil, List.cons_append, List.nil_append, List.append_nil, Nat.zero_add, Nat.add_zero, Nat.reduceAdd, Nat.reduceBEq, Nat.reduceEqDiff, Nat.ble, BEq.rfl, Bool.and_true, Bool.and_self, cond_true, beq_self_eq_true]; rfl)) ?_)
      clear hh w; intro w hh
      refine w_nil ?_
      have hl2 := hl.add (t := 7) (hl.nil) rfl; clear hl; have hl := hl2; clear hl2
      refine blk_normal ?_
      refine then_normal ?_
      refine c_seq ?_
      refine c_region ?_
      refine wl (wl_val hl rfl trivial (r_move hl rfl) ?_)
      clear hl a; intro a hl
      refine wl (wl_val hl rfl trivial (r_assign hl rfl) ?_)
      clear hl a; intro a hl
      refine w_nil ?_
      have hl2 := hl.add (t := 6) (hl.nil) rfl; clear hl; have hl := hl2; clear hl2
      refine then_normal ?_
      refine wp_ret ?_
      first
      | (refine f_ret1 (F' := (gb, C (GtV.c { g with st := s }) 127) :: ((g.led, C l'.c 91) :: (l'.d.E ++ s.E))) hl hh rfl rfl (by repeat (first | exact keeps_nil | apply keeps_cons (by repeat (first | exact find_head | apply find_tail | apply find_skip)) (by first  | rfl) | exact keeps_self | exact keeps_left | apply keeps_app | apply keeps_mv | apply keeps_skip)) ?_; exact ⟨l', hl', hp', by rw [hr]; rfl, by rw [hr]; rfl⟩)
      | (refine f_ret1 (F' := (gb, C (GtV.c { g with off := true, out := [], op := none, oc := 0, oE := [] }) 127) :: ((g.led, C l'.c 91) :: (l'.d.E ++ s.E))) hl hh rfl rfl (by repeat (first | exact keeps_nil | apply keeps_cons (by repeat (first | exact find_head | apply find_tail | apply find_skip)) (by first  | rfl) | exact keeps_self | exact keeps_left | apply keeps_app | apply keeps_mv | apply keeps_skip)) ?_; exact ⟨l', hl', hp', by rw [hr]; rfl, by rw [hr]; rfl⟩)
      | (refine f_ret1 (F' := (gb, C (GtV.c g) 127) :: ((g.led, C l'.c 91) :: (l'.d.E ++ s.E))) hl hh rfl rfl (by repeat (first | exact keeps_nil | apply keeps_cons (by repeat (first | exact find_head | apply find_tail | apply find_skip)) (by first  | rfl) | exact keeps_self | exact keeps_left | apply keeps_app | apply keeps_mv | apply keeps_skip)) ?_; exact ⟨l', hl', hp', by rw [hr]; rfl, by rw [hr]; rfl⟩)
  · intro hc0
    try simp only [decide_eq_true_eq, decide_eq_false_iff_not, Bool.not_eq_true', Bool.not_eq_false', Bool.not_eq_true, Bool.not_eq_false, Bool.and_eq_true, Bool.or_eq_true, Bool.and_eq_false_iff, Bool.or_eq_false_iff, Bool.not_not, ne_eq, Int.not_lt, Int.not_le, Decidable.not_not, beq_iff_eq, bne_iff_ne] at hc0
    subst hc0
    refine c_draw [(gb, C g.c 127), (k4, C s.c 89)] [5, 6] mixed hh ?_
    clear hh w; intro w hh
    have hM : Mem [(gb, C g.c 127), (k4, C s.c 89)] w := (memK hh (by repeat (first | exact keeps_nil | apply keeps_cons (by repeat (first | exact find_head | apply find_tail | apply find_skip)) (by first  | rfl) | exact keeps_self | exact keeps_left | apply keeps_app | apply keeps_mv | apply keeps_skip)))
    refine d_take (i := 0) hl rfl (by kernel_rfl) (by kernel_rfl) (by kernel_rfl) (by kernel_rfl) (by kernel_rfl) rfl trivial (fun _ _ _ h => h) hM (fun w hC => r_move hl rfl) rfl ?_
    clear hl a; intro a hl
    refine d_take (i := 1) hl rfl (by kernel_rfl) (by kernel_rfl) (by kernel_rfl) (by kernel_rfl) (by kernel_rfl) rfl trivial (fun _ _ _ h => h) hM (fun w hC => r_nilCheck hl rfl) rfl ?_
    clear hl a; intro a hl
    refine d_take (i := 2) hl rfl (by kernel_rfl) (by kernel_rfl) (by kernel_rfl) (by kernel_rfl) (by kernel_rfl) rfl trivial (fun _ _ _ h => h) hM (fun w hC => r_field hl rfl fld127_0) rfl ?_
    clear hl a; intro a hl
    refine d_take (i := 3) hl rfl (by kernel_rfl) (by kernel_rfl) (by kernel_rfl) (by kernel_rfl) (by kernel_rfl) rfl trivial (fun _ _ _ h => h) hM (fun w hC => r_loadC hl rfl one48 hC (by repeat (first | exact find_head | apply find_tail | apply find_skip)) (by first | exact gtc_led _ | exact gtc_ep _ | exact gtc_vs _ | exact gtc_is _ | exact gtc_fid _ | exact gtc_ph _ | exact gtc_vd _ | exact gtc_q _ | exact gtc_rf _ | exact gtc_ys _ | exact gtc_dn _ | exact gtc_tk _ | exact gtc_au _ | exact gtc_o _ | exact gtc_off _ | rfl)) rfl ?_
    clear hl a; intro a hl
    refine d_take (i := 4) hl rfl (by kernel_rfl) (by kernel_rfl) (by kernel_rfl) (by kernel_rfl) (by kernel_rfl) rfl trivial (fun _ _ _ h => h) hM (fun w hC => r_loadCA hl rfl agg89 hC (by repeat (first | exact find_head | apply find_tail | apply find_skip)) (by exact stc_all _) (by exact stc_len _)) rfl ?_
    clear hl a; intro a hl
    refine d_one (i := 5) (by kernel_rfl) rfl ?_
    try clear hM
    refine id (w_call hl hh rfl trivial rfl cal30 rfl (sp_mono (store_spec Z g.led l hl9 s hs) (fun v G h => sto3 (trP_b false l.pl s.pl) h)) (by repeat (first | exact keeps_nil | apply keeps_cons (by repeat (first | exact find_head | apply find_tail | apply find_skip)) (by first  | rfl) | exact keeps_self | exact keeps_left | apply keeps_app | apply keeps_mv | apply keeps_skip)) trivial ?_)
    clear hl hh a w; intro vc Fc a w hR hl hh
    refine d_step (fun h => absurd h (by decide)) ?_
    refine d_takeL (i := 6) hl rfl (by kernel_rfl) (by kernel_rfl) (by kernel_rfl) (by kernel_rfl) (by kernel_rfl) rfl trivial (fun _ _ _ h => h) (fun w => r_assign hl rfl) rfl ?_
    clear hl a; intro a hl
    refine d_done (by kernel_rfl) ?_
    try clear hM
    have hl2 := hl.add (t := 0) (hl.add (t := 4) (hl.add (t := 7) (hl.nil) rfl) rfl) rfl; clear hl; have hl := hl2; clear hl2
    refine then_normal ?_
    refine c_seq ?_
    refine c_seq ?_
    refine c_region ?_
    refine wl (wl_val hl rfl trivial (r_move hl rfl) ?_)
    clear hl a; intro a hl
    rcases hR with ⟨l', hr, hl', hp', rfl, rfl⟩ | ⟨l', hr, hl', hp', rfl, rfl⟩ | ⟨l', hr, hl', hp', rfl, rfl⟩
    ·
      try simp only [List.cons_append, List.nil_append, List.append_nil] at hh
      try simp only [LdV.F, List.append_assoc, List.cons_append] at hh
      refine w_nil ?_
      have hl2 := hl.add (t := 0) (hl.add (t := 4) (hl.add (t := 7) (hl.add (t := 21) (hl.nil) rfl) rfl) rfl) rfl; clear hl; have hl := hl2; clear hl2
      refine then_normal ?_
      refine wp_block ?_
      refine c_seq ?_
      refine c_region ?_
      first | refine wl (wl_val hl rfl trivial (r_eql_ifcN hl rfl ifc102) ?_) | refine wl (wl_val hl rfl trivial (r_eql_ifcS hl rfl ifc102) ?_)
      clear hl a; intro a hl
      refine wl (wl_val hl rfl trivial (r_assign hl rfl) ?_)
      clear hl a; intro a hl
      refine w_nil ?_
      have hl2 := hl.add (t := 0) (hl.add (t := 4) (hl.add (t := 7) (hl.add (t := 21) (hl.add (t := 22) (hl.nil) rfl) rfl) rfl) rfl) rfl; clear hl; have hl := hl2; clear hl2
      refine then_normal ?_
      refine c_condT hl rfl ?_
      refine c_region ?_
      refine wl (wl_val hl rfl trivial (r_move hl rfl) ?_)
      clear hl a; intro a hl
      refine wl (w_loadA hl hh rfl trivial agg89 rfl (by repeat (first | exact find_head | apply find_tail | apply find_skip)) (by exact stc_all _) (by exact stc_len _) ?_)
      clear hl a; intro a hl
      refine wl (wl_val hl rfl trivial (r_nilCheck hl rfl) ?_)
      clear hl a; intro a hl
      refine wl (wl_val hl rfl trivial (r_field hl rfl fld127_1) ?_)
      clear hl a; intro a hl
      refine wl (w_storeA hl hh trivial agg89 rfl rfl (by repeat (first | exact find_head | apply find_tail | apply find_skip)) (by exact stc_len _) (by (rw [gtc_len]; omega)) (by exact stc_one _) (by exact gtc_sst _ _) ?_)
      clear hh w; intro w hh
      refine w_nil ?_
      have hl2 := hl.add (t := 7) (hl.nil) rfl; clear hl; have hl := hl2; clear hl2
      refine blk_normal ?_
      refine then_normal ?_
      refine c_seq ?_
      refine c_region ?_
      refine wl (wl_val hl rfl trivial (r_move hl rfl) ?_)
      clear hl a; intro a hl
      refine wl (wl_val hl rfl trivial (r_assign hl rfl) ?_)
      clear hl a; intro a hl
      refine w_nil ?_
      have hl2 := hl.add (t := 6) (hl.nil) rfl; clear hl; have hl := hl2; clear hl2
      refine then_normal ?_
      refine wp_ret ?_
      first
      | (refine f_ret1 (F' := (gb, C (GtV.c { g with st := s }) 127) :: ((g.led, C l'.c 91) :: (l'.d.E ++ s.E))) hl hh rfl rfl (by repeat (first | exact keeps_nil | apply keeps_cons (by repeat (first | exact find_head | apply find_tail | apply find_skip)) (by first  | rfl) | exact keeps_self | exact keeps_left | apply keeps_app | apply keeps_mv | apply keeps_skip)) ?_; exact ⟨l', hl', hp', by rw [hr]; rfl, by rw [hr]; rfl⟩)
      | (refine f_ret1 (F' := (gb, C (GtV.c { g with off := true, out := [], op := none, oc := 0, oE := [] }) 127) :: ((g.led, C l'.c 91) :: (l'.d.E ++ s.E))) hl hh rfl rfl (by repeat (first | exact keeps_nil | apply keeps_cons (by repeat (first | exact find_head | apply find_tail | apply find_skip)) (by first  | rfl) | exact keeps_self | exact keeps_left | apply keeps_app | apply keeps_mv | apply keeps_skip)) ?_; exact ⟨l', hl', hp', by rw [hr]; rfl, by rw [hr]; rfl⟩)
      | (refine f_ret1 (F' := (gb, C (GtV.c g) 127) :: ((g.led, C l'.c 91) :: (l'.d.E ++ s.E))) hl hh rfl rfl (by repeat (first | exact keeps_nil | apply keeps_cons (by repeat (first | exact find_head | apply find_tail | apply find_skip)) (by first  | rfl) | exact keeps_self | exact keeps_left | apply keeps_app | apply keeps_mv | apply keeps_skip)) ?_; exact ⟨l', hl', hp', by rw [hr]; rfl, by rw [hr]; rfl⟩)
    ·
      try simp only [List.cons_append, List.nil_append, List.append_nil] at hh
      try simp only [LdV.F, List.append_assoc, List.cons_append] at hh
      refine w_nil ?_
      have hl2 := hl.add (t := 0) (hl.add (t := 4) (hl.add (t := 7) (hl.add (t := 21) (hl.nil) rfl) rfl) rfl) rfl; clear hl; have hl := hl2; clear hl2
      refine then_normal ?_
      refine wp_block ?_
      refine c_seq ?_
      refine c_region ?_
      first | refine wl (wl_val hl rfl trivial (r_eql_ifcN hl rfl ifc102) ?_) | refine wl (wl_val hl rfl trivial (r_eql_ifcS hl rfl ifc102) ?_)
      clear hl a; intro a hl
      refine wl (wl_val hl rfl trivial (r_assign hl rfl) ?_)
      clear hl a; intro a hl
      refine w_nil ?_
      have hl2 := hl.add (t := 0) (hl.add (t := 4) (hl.add (t := 7) (hl.add (t := 21) (hl.add (t := 22) (hl.nil) rfl) rfl) rfl) rfl) rfl; clear hl; have hl := hl2; clear hl2
      refine then_normal ?_
      refine c_condF hl rfl ?_
      refine c_seq ?_
      refine c_region ?_
      refine wl (wl_val hl rfl trivial (r_makeInterface hl rfl conc105) ?_)
      clear hl a; intro a hl
      refine wl (wl_val hl rfl trivial (r_eql_ifcI hl rfl rfl ifc102 icmp105) ?_)
      clear hl a; intro a hl
      refine wl (wl_val hl rfl trivial (r_assign hl rfl) ?_)
      clear hl a; intro a hl
      refine w_nil ?_
      have hl2 := hl.add (t := 0) (hl.add (t := 7) (hl.add (t := 28) (hl.nil) rfl) rfl) rfl; clear hl; have hl := hl2; clear hl2
      refine then_normal ?_
      refine c_condF hl rfl ?_
      refine wp_skip ?_
      refine blk_normal ?_
      refine then_normal ?_
      refine c_seq ?_
      refine c_region ?_
      refine wl (wl_val hl rfl trivial (r_move hl rfl) ?_)
      clear hl a; intro a hl
      refine wl (wl_val hl rfl trivial (r_assign hl rfl) ?_)
      clear hl a; intro a hl
      refine w_nil ?_
      have hl2 := hl.add (t := 6) (hl.nil) rfl; clear hl; have hl := hl2; clear hl2
      refine then_normal ?_
      refine wp_ret ?_
      first
      | (refine f_ret1 (F' := (gb, C (GtV.c { g with st := s }) 127) :: ((g.led, C l'.c 91) :: (l'.d.E ++ s.E))) hl hh rfl rfl (by repeat (first | exact keeps_nil | apply keeps_cons (by repeat (first | exact find_head | apply find_tail | apply find_skip)) (by first  | rfl) | exact keeps_self | exact keeps_left | apply keeps_app | apply keeps_mv | apply keeps_skip)) ?_; exact ⟨l', hl', hp', by rw [hr]; rfl, by rw [hr]; rfl⟩)
      | (refine f_ret1 (F' := (gb, C (GtV.c { g with off := true, out := [], op := none, oc := 0, oE := [] }) 127) :: ((g.led, C l'.c 91) :: (l'.d.E ++ s.E))) hl hh rfl rfl (by repeat (first | exact keeps_nil | apply keeps_cons (by repeat (first | exact find_head | apply find_tail | apply find_skip)) (by first  | rfl) | exact keeps_self | exact keeps_left | apply keeps_app | apply keeps_mv | apply keeps_skip)) ?_; exact ⟨l', hl', hp', by rw [hr]; rfl, by rw [hr]; rfl⟩)
      | (refine f_ret1 (F' := (gb, C (GtV.c g) 127) :: ((g.led, C l'.c 91) :: (l'.d.E ++ s.E))) hl hh rfl rfl (by repeat (first | exact keeps_nil | apply keeps_cons (by repeat (first | exact find_head | apply find_tail | apply find_skip)) (by first  | rfl) | exact keeps_self | exact keeps_left | apply keeps_app | apply keeps_mv | apply keeps_skip)) ?_; exact ⟨l', hl', hp', by rw [hr]; rfl, by rw [hr]; rfl⟩)
    ·
      try simp only [List.cons_append, List.nil_append, List.append_nil] at hh
      try simp only [LdV.F, List.append_assoc, List.cons_append] at hh
      refine w_nil ?_
      have hl2 := hl.add (t := 0) (hl.add (t := 4) (hl.add (t := 7) (hl.add (t := 21) (hl.nil) rfl) rfl) rfl) rfl; clear hl; have hl := hl2; clear hl2
      refine then_normal ?_
      refine wp_block ?_
      refine c_seq ?_
      refine c_region ?_
      first | refine wl (wl_val hl rfl trivial (r_eql_ifcN hl rfl ifc102) ?_) | refine wl (wl_val hl rfl trivial (r_eql_ifcS hl rfl ifc102) ?_)
      clear hl a; intro a hl
      refine wl (wl_val hl rfl trivial (r_assign hl rfl) ?_)
      clear hl a; intro a hl
      refine w_nil ?_
      have hl2 := hl.add (t := 0) (hl.add (t := 4) (hl.add (t := 7) (hl.add (t := 21) (hl.add (t := 22) (hl.nil) rfl) rfl) rfl) rfl) rfl; clear hl; have hl := hl2; clear hl2
      refine then_normal ?_
      refine c_condF hl rfl ?_
      refine c_seq ?_
      refine c_region ?_
      refine wl (wl_val hl rfl trivial (r_makeInterface hl rfl conc105) ?_)
      clear hl a; intro a hl
      refine wl (wl_val hl rfl trivial (r_eql_ifcI hl rfl rfl ifc102 icmp105) ?_)
      clear hl a; intro a hl
      refine wl (wl_val hl rfl trivial (r_assign hl rfl) ?_)
      clear hl a; intro a hl
      refine w_nil ?_
      have hl2 := hl.add (t := 0) (hl.add (t := 7) (hl.add (t := 28) (hl.nil) rfl) rfl) rfl; clear hl; have hl := hl2; clear hl2
      refine then_normal ?_
      refine c_condT hl rfl ?_
      refine c_seq ?_
      refine c_region ?_
      refine wl (wl_val hl rfl trivial (r_move hl rfl) ?_)
      clear hl a; intro a hl
      refine wl (wl_val hl rfl trivial (r_nilCheck hl rfl) ?_)
      clear hl a; intro a hl
      refine wl (wl_val hl rfl trivial (r_field hl rfl fld127_10) ?_)
      clear hl a; intro a hl
      refine wl (w_store hl hh trivial one4 rfl rfl (by repeat (first | exact find_head | apply find_tail | apply find_skip)) (by first | (simp; done) | (simp; omega) | (rw [gtc_len]; omega) | (rw [gtc_len]; simp; done)) (by first | rfl | assumption | (apply Row.one; assumption)) (by first | exact gtc_sys _ _ | exact gtc_sdn _ _ | exact gtc_stk _ _ | exact gtc_sau _ _ | exact gtc_soff _ _ | exact gtc_so _ none [] 0 [] | (simp only [setL, List.getElem?_cons_zero, List.getElem?_cons_succ, Value.cells, List.take_zero, List.take_succ_cons, List.take_nil, List.drop_zero, List.drop_succ_cons, List.drop_nil, List.length_cons, List.length_nil, List.cons_append, List.nil_append, List.append_nil, Nat.zero_add, Nat.add_zero, Nat.reduceAdd, Nat.reduceBEq, Nat.reduceEqDiff, Nat.ble, BEq.rfl, Bool.and_true, Bool.and_self, cond_true, beq_self_eq_true]; rfl)) ?_)
      clear hh w; intro w hh
      refine w_nil ?_
      have hl2 := hl.add (t := 0) (hl.add (t := 7) (hl.nil) rfl) rfl; clear hl; have hl := hl2; clear hl2
      refine then_normal ?_
      refine c_region ?_
      refine wl (wl_val hl rfl trivial (r_move hl rfl) ?_)
      clear hl a; intro a hl
      refine wl (wl_val hl rfl trivial (r_nilCheck hl rfl) ?_)
      clear hl a; intro a hl
      refine wl (wl_val hl rfl trivial (r_field hl rfl fld127_9) ?_)
      clear hl a; intro a hl
      refine wl (w_store hl hh trivial one53 rfl rfl (by repeat (first | exact find_head | apply find_tail | apply find_skip)) (by first | (simp; done) | (simp; omega) | (rw [gtc_len]; omega) | (rw [gtc_len]; simp; done)) (by first | rfl | assumption | (apply Row.one; assumption)) (by first | exact gtc_sys _ _ | exact gtc_sdn _ _ | exact gtc_stk _ _ | exact gtc_sau _ _ | exact gtc_soff _ _ | exact gtc_so _ none [] 0 [] | (simp only [setL, List.getElem?_cons_zero, List.getElem?_cons_succ, Value.cells, List.take_zero, List.take_succ_cons, List.take_nil, List.drop_zero, List.drop_succ_cons, List.drop_nil, List.length_cons, List.length_nil, List.cons_append, List.nil_append, List.append_nil, Nat.zero_add, Nat.add_zero, Nat.reduceAdd, Nat.reduceBEq, Nat.reduceEqDiff, Nat.ble, BEq.rfl, Bool.and_true, Bool.and_self, cond_true, beq_self_eq_true]; rfl)) ?_)
      clear hh w; intro w hh
      refine w_nil ?_
      have hl2 := hl.add (t := 7) (hl.nil) rfl; clear hl; have hl := hl2; clear hl2
      refine blk_normal ?_
      refine then_normal ?_
      refine c_seq ?_
      refine c_region ?_
      refine wl (wl_val hl rfl trivial (r_move hl rfl) ?_)
      clear hl a; intro a hl
      refine wl (wl_val hl rfl trivial (r_assign hl rfl) ?_)
      clear hl a; intro a hl
      refine w_nil ?_
      have hl2 := hl.add (t := 6) (hl.nil) rfl; clear hl; have hl := hl2; clear hl2
      refine then_normal ?_
      refine wp_ret ?_
      first
      | (refine f_ret1 (F' := (gb, C (GtV.c { g with st := s }) 127) :: ((g.led, C l'.c 91) :: (l'.d.E ++ s.E))) hl hh rfl rfl (by repeat (first | exact keeps_nil | apply keeps_cons (by repeat (first | exact find_head | apply find_tail | apply find_skip)) (by first  | rfl) | exact keeps_self | exact keeps_left | apply keeps_app | apply keeps_mv | apply keeps_skip)) ?_; exact ⟨l', hl', hp', by rw [hr]; rfl, by rw [hr]; rfl⟩)
      | (refine f_ret1 (F' := (gb, C (GtV.c { g with off := true, out := [], op := none, oc := 0, oE := [] }) 127) :: ((g.led, C l'.c 91) :: (l'.d.E ++ s.E))) hl hh rfl rfl (by repeat (first | exact keeps_nil | apply keeps_cons (by repeat (first | exact find_head | apply find_tail | apply find_skip)) (by first  | rfl) | exact keeps_self | exact keeps_left | apply keeps_app | apply keeps_mv | apply keeps_skip)) ?_; exact ⟨l', hl', hp', by rw [hr]; rfl, by rw [hr]; rfl⟩)
      | (refine f_ret1 (F' := (gb, C (GtV.c g) 127) :: ((g.led, C l'.c 91) :: (l'.d.E ++ s.E))) hl hh rfl rfl (by repeat (first | exact keeps_nil | apply keeps_cons (by repeat (first | exact find_head | apply find_tail | apply find_skip)) (by first  | rfl) | exact keeps_self | exact keeps_left | apply keeps_app | apply keeps_mv | apply keeps_skip)) ?_; exact ⟨l', hl', hp', by rw [hr]; rfl, by rw [hr]; rfl⟩)
end Go.Proofs.Qxb6500908aGreat

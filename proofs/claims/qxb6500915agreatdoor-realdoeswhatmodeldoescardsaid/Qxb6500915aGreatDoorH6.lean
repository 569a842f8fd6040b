import Derived.Test.Qxb6500915aGreatDoorH5
namespace Go.Proofs.Qxb6500915aGreatDoor
open Go.Eng
set_option linter.unusedVariables false
set_option linter.unusedSimpArgs false
theorem cal86 : callable Tryz.prog 86 = true := by kernel_rfl
theorem zero127 : zeroOk Tryz.prog 127 (.agg #[(.string ⟨#[]⟩), (.slice none 0 0), (.slice none 0 0), (.int .i64 0), (.slice none 0 0)]) := by unfold zeroOk; kernel_rfl
theorem bld127 : buildOk Tryz.prog 127 [(0, 2), (2, 1), (3, 1), (4, 1)] = true := by kernel_rfl
theorem zero103 : zeroOk Tryz.prog 103 (.map none) := by unfold zeroOk; kernel_rfl
theorem fld127_0 : fieldOk Tryz.prog 127 0 0 = true := by kernel_rfl
theorem fld127_2 : fieldOk Tryz.prog 127 2 3 = true := by kernel_rfl
theorem app125 : appOk Tryz.prog 125 49 1 8 = true := by kernel_rfl
theorem zero49 : zeroOk Tryz.prog 49 (.int .u64 0) := by unfold zeroOk; kernel_rfl
/-! ## the search is set up -/
structure NS6 where
  i : Nat
  vs : List Int
  xs : List LV
  jb : List Value
structure NSI (v0 : List Int) (B : List Lt) (n : Nat) (s : NS6) : Prop where
  i : s.i ≤ n
  st : rnLs v0 (B.take s.i) = (s.vs, s.xs.map LV.l)
  xl : s.xs.length = s.i
  vl : s.vs.length ≤ v0.length + s.i * 65536
  jl : (fl LV.c4 s.xs ++ s.jb).length = n * 4
  ok : ∀ x, x ∈ s.xs → x.ok
  vb : ∀ x t, x ∈ s.xs → t ∈ x.l.a → t.k = 0 → 0 ≤ t.v ∧ t.v < s.vs.length
theorem NSI.next {v0 : List Int} {B : List Lt} {n : Nat} {s : NS6} (h : NSI v0 B n s) {x : LV} (hx : B[s.i]? = some x.l) (hxo : x.ok) (hn : s.i < n) (hv : v0.length ≤ 100000 ∧ n ≤ 65536) {p : Option Addr} {c : Nat} {E : List (Nat × Obj)} (hR : Row (.slice p x.l.a.length c) x.l.a.length (fl tmc (rnTs s.vs x.l.a).2) 4 54 E) (hj : 4 ≤ s.jb.length) :
    NSI v0 B n ⟨s.i + 1, (rnTs s.vs x.l.a).1, s.xs ++ [⟨(rnL s.vs x.l).2, p, c, E⟩], s.jb.drop 4⟩ := by
  obtain ⟨h1, h2, h3⟩ := rnTs_bd s.vs x.l.a
  have h4 := hxo.ags.len
  have h5 := h.vl
  have hmul : s.i * 65536 ≤ 65536 * 65536 := Nat.mul_le_mul_right _ (by omega)
  refine ⟨by simp only; omega, ?_, by simp [h.xl], by show (rnTs s.vs x.l.a).1.length ≤ v0.length + (s.i + 1) * 65536; rw [Nat.succ_mul]; omega, (app_gl c4_len _ _ _ hj).trans h.jl, fun y hy => ?_, fun y t hy ht hk => ?_⟩
  · show rnLs v0 (B.take (s.i + 1)) = _
    rw [List.take_add_one, hx]
    show rnLs v0 (B.take s.i ++ [x.l]) = _
    rw [rnLs_snoc, h.st]
    simp only [List.map_append, List.map_cons, List.map_nil]
    rfl
  · rcases List.mem_append.1 hy with e | e
    · exact h.ok y e
    · rw [List.mem_singleton.1 e]
      refine ⟨⟨?_, by show (rnTs s.vs x.l.a).2.length ≤ _; rw [rnTs_len]; exact h4, h3 hxo.ags.ok (by omega)⟩, hxo.k, hxo.o, hxo.p⟩
      show Row (.slice p (rnTs s.vs x.l.a).2.length c) (rnTs s.vs x.l.a).2.length _ 4 54 E
      rw [rnTs_len]; exact hR
  · rcases List.mem_append.1 hy with e | e
    · have := h.vb y t e ht hk; simp only; omega
    · rw [List.mem_singleton.1 e] at ht
      exact h2 t ht hk
structure OC where
  i : Nat
  oc : List Int
theorem zeros_uI {n : Nat} {jk : List Value} (h : jk.length = n * 1 ∧ ∀ j, j < n * 1 → jk[j]? = some ((Value.int .u64 0).cells[j % 1]!)) : jk = fl uI (List.replicate n 0) := by
  refine List.ext_getElem? fun i => ?_
  by_cases hi : i < n
  · rw [h.2 i (by omega)]
    have := uI_at (l := List.replicate n 0) (i := i) (by simpa using hi)
    rw [Nat.zero_add, Nat.mul_one, fn_zero n i hi] at this
    rw [this, Nat.mod_one]; rfl
  · rw [List.getElem?_eq_none (by omega), List.getElem?_eq_none (by rw [fl_len uI_len, List.length_replicate]; omega)]
theorem us0 {l : List Int} {c : Int} {i : Nat} (h : i < l.length) : setL (fl uI l) (0 + i * 1) [.int .u64 c] = fl uI (l.set i c) := by
  have := fl_set uI_len l c [] i h
  rw [List.append_nil, List.append_nil] at this; exact this
theorem um0 {l : List Int} {i : Nat} (h : i < l.length) : 0 + i * 1 < (fl uI l).length := by rw [fl_len uI_len]; omega
theorem oc1_y {i : Nat} {oc : List Int} {t : Tm} {v : Nat} (hk : t.k = 0) (hv : t.v = (v : Int)) : oc1 i oc t = oc.set v (bitsOf .or .u64 (fnI oc v) (sh64 i)) := by unfold oc1; rw [if_pos hk, hv, Int.toNat_natCast]
theorem oc1_n {i : Nat} {oc : List Int} {t : Tm} (hk : ¬ t.k = 0) : oc1 i oc t = oc := by unfold oc1; rw [if_neg hk]
theorem jb_done {l : List Value} {jb : List Value} {n m : Nat} (h : (l ++ jb).length = n * 4) (hl : l.length = m * 4) (e : m = n) : jb = [] := by
  rw [List.length_append] at h
  exact List.eq_nil_of_length_eq_zero (by subst e; omega)
theorem xs_E {xs : List LV} {x : LV} {z : Nat × Obj} (h : x ∈ xs) (hz : z ∈ x.E) : z ∈ List.flatMap LV.E xs := List.mem_flatMap.2 ⟨x, h, hz⟩


attribute [local irreducible] RV.E

set_option maxHeartbeats 16000000 in
theorem search_spec (r : RV) (hr : r.ok) (h64 : r.ls.length ≤ 64) (hvs : (rnLs (rnTs [] r.a).1 r.ru.b).1.length ≤ 1000000) : SpK Tryz.prog 56 #[.agg ⟨[.string r.p, .slice r.hp r.a.length r.hc, .slice r.bp r.ls.length r.bc]⟩] (Mem r.E) [] (fun u F' => ∃ (X : SX) (hp : Option Addr) (hc : Nat) (hE : List (Nat × Obj)), SIn X F' ∧ u = .pointer (some ⟨X.sb, 0, none⟩) ∧ X.hs = r.p ∧ X.hv = .slice hp r.a.length hc ∧ Row (.slice hp r.a.length hc) r.a.length (fl tmc (rnTs [] r.a).2) 4 54 hE ∧ (∀ z, z ∈ hE → z ∈ F') ∧ X.B = (rnLs (rnTs [] r.a).1 r.ru.b).2 ∧ X.vs = (rnLs (rnTs [] r.a).1 r.ru.b).1.length ∧ X.xs.length = r.ls.length ∧ X.oc = ocB X.B X.xs.length (List.replicate X.vs 0)) := by
  refine f_enter (args := [.agg ⟨[.string r.p, .slice r.hp r.a.length r.hc, .slice r.bp r.ls.length r.bc]⟩]) Tryz.func56 rfl Tryz.ntmps56 rfl ?_
  intro w0 w a hpre hl hh
  have hra := hr.hd.len; have hrl := hr.len
  have hrb : r.ru.b.length = r.ls.length := by unfold RV.ru; rw [List.length_map]
  simp only [slotsFrom, Nat.reduceAdd] at hl
  refine c_seq ?_
  refine c_region ?_
  refine wl (w_box hl hh rfl trivial rfl rfl ?_)
  clear hl hh a w; intro k1 a w hl hh
  refine wl (wl_val hl rfl trivial (r_assign hl rfl) ?_)
  clear hl a; intro a hl
  refine w_nil ?_
  have hl2 := hl.add (t := 1) (hl.nil) rfl; clear hl; have hl := hl2; clear hl2
  refine then_normal ?_
  refine c_seq ?_
  refine c_region ?_
  refine wl (wl_val hl rfl trivial (r_field hl rfl fld57_1) ?_)
  clear hl a; intro a hl
  refine wl (w_load hl hh rfl trivial one55 rfl (by repeat (first | exact find_head | apply find_tail | apply find_skip)) (by first | exact uI_at (by omega) | rfl) ?_)
  clear hl a; intro a hl
  refine wl (wl_val hl rfl trivial (r_lenS hl rfl slc55) ?_)
  clear hl a; intro a hl
  refine wl (w_makeSliceN hl hh rfl trivial app55 zero48 rfl rfl (by omega) (by decide) ?_)
  clear hl hh a w; intro k15 jk15 a w hjk15 hl hh
  refine wl (wl_val hl rfl trivial (r_build hl rfl zero127 bld127 (by simp only [fillL, setL, List.getElem?_cons_zero, List.getElem?_cons_succ, Value.cells, List.take_zero, List.take_succ_cons, List.take_nil, List.drop_zero, List.drop_succ_cons, List.drop_nil, List.length_cons, List.length_nil, List.cons_append, List.nil_append, List.append_nil, Nat.zero_add, Nat.add_zero, Nat.reduceAdd, Nat.reduceBEq, Nat.reduceEqDiff, Nat.ble, BEq.rfl, Bool.and_true, Bool.and_self, cond_true, beq_self_eq_true]; rfl)) ?_)
  clear hl a; intro a hl
  refine wl (w_box hl hh rfl trivial rfl rfl ?_)
  clear hl hh a w; intro k17 a w hl hh
  refine wl (wl_val hl rfl trivial (r_assign hl rfl) ?_)
  clear hl a; intro a hl
  refine w_nil ?_
  have hl2 := hl.add (t := 1) (hl.add (t := 3) (hl.nil) rfl) rfl; clear hl; have hl := hl2; clear hl2
  refine then_normal ?_
  refine c_seq ?_
  refine c_region ?_
  refine wl (w_makeMap (kInt .i64) hl hh rfl trivial ?_)
  clear hl hh a w; intro k18 a w hl hh
  refine wl (w_alloc hl hh rfl trivial zero103 rfl ?_)
  clear hl hh a w; intro k4 a w hl hh
  refine wl (w_store hl hh trivial one103 rfl rfl (by repeat (first | exact find_head | apply find_tail | apply find_skip)) (by first | (simp; done) | (simp; omega) | (rw [hz.jl]; omega) | exact um0 (by omega)) (by first | rfl | assumption | (apply Row.one; assumption)) (by first | exact app_gen c4_len z.xs ⟨(rnL z.vs x.l).2, rp, rc, Eo⟩ z.jb z.i hzx hj4 | exact us0 (by omega) | (simp only [setL, List.getElem?_cons_zero, List.getElem?_cons_succ, Value.cells, List.take_zero, List.take_succ_cons, List.take_nil, List.drop_zero, List.drop_succ_cons, List.drop_nil, List.length_cons, List.length_nil, List.cons_append, List.nil_append, List.append_nil, Nat.zero_add, Nat.add_zero, Nat.reduceAdd, Nat.reduceBEq, Nat.reduceEqDiff, Nat.ble, BEq.rfl, Bool.and_true, Bool.and_self, cond_true, beq_self_eq_true]; rfl)) ?_)
  clear hh w; intro w hh
  refine w_nil ?_
  have hl2 := hl.add (t := 1) (hl.add (t := 3) (hl.add (t := 4) (hl.nil) rfl) rfl) rfl; clear hl; have hl := hl2; clear hl2
  refine then_normal ?_
  refine c_seq ?_
  refine c_region ?_
  refine wl (wl_val hl rfl trivial (r_makeFunc hl rfl) ?_)
  clear hl a; intro a hl
  refine wl (wl_val hl rfl trivial (r_assign hl rfl) ?_)
  clear hl a; intro a hl
  refine w_nil ?_
  have hl2 := hl.add (t := 1) (hl.add (t := 3) (hl.add (t := 4) (hl.add (t := 5) (hl.nil) rfl) rfl) rfl) rfl; clear hl; have hl := hl2; clear hl2
  refine then_normal ?_
  refine c_seq ?_
  refine c_draw [(k1, C [.string r.p, .slice r.hp r.a.length r.hc, .slice r.bp r.ls.length r.bc] 57)] [10, 11, 12] mixed hh ?_
  clear hh w; intro w hh
  have hM : Mem [(k1, C [.string r.p, .slice r.hp r.a.length r.hc, .slice r.bp r.ls.length r.bc] 57)] w := (by (repeat (first | exact Mem.nil | refine Mem.consR hh (by assumption) (by simp) ?_ | refine Mem.cons hh.mem (by (repeat (first | exact find_head | apply find_tail | apply find_skip)); done) ?_ | fail)); done)
  refine d_take (i := 0) hl rfl (by kernel_rfl) (by kernel_rfl) (by kernel_rfl) (by kernel_rfl) (by kernel_rfl) rfl trivial (fun _ _ _ h => h) hM (fun w hC => r_move hl rfl) rfl ?_
  clear hl a; intro a hl
  refine d_take (i := 1) hl rfl (by kernel_rfl) (by kernel_rfl) (by kernel_rfl) (by kernel_rfl) (by kernel_rfl) rfl trivial (fun _ _ _ h => h) hM (fun w hC => r_field hl rfl fld57_0) rfl ?_
  clear hl a; intro a hl
  refine d_take (i := 2) hl rfl (by kernel_rfl) (by kernel_rfl) (by kernel_rfl) (by kernel_rfl) (by kernel_rfl) rfl trivial (fun _ _ _ h => h) hM (fun w hC => r_field hl rfl fld46_0) rfl ?_
  clear hl a; intro a hl
  refine d_take (i := 3) hl rfl (by kernel_rfl) (by kernel_rfl) (by kernel_rfl) (by kernel_rfl) (by kernel_rfl) rfl trivial (fun _ _ _ h => h) hM (fun w hC => r_loadC hl rfl one9 hC (by repeat (first | exact find_head | apply find_tail | apply find_skip)) (by first | exact uI_at (by omega) | rfl)) rfl ?_
  clear hl a; intro a hl
  refine d_take (i := 4) hl rfl (by kernel_rfl) (by kernel_rfl) (by kernel_rfl) (by kernel_rfl) (by kernel_rfl) rfl trivial (fun _ _ _ h => h) hM (fun w hC => r_move hl rfl) rfl ?_
  clear hl a; intro a hl
  refine d_take (i := 5) hl rfl (by kernel_rfl) (by kernel_rfl) (by kernel_rfl) (by kernel_rfl) (by kernel_rfl) rfl trivial (fun _ _ _ h => h) hM (fun w hC => r_field hl rfl fld57_0) rfl ?_
  clear hl a; intro a hl
  refine d_take (i := 6) hl rfl (by kernel_rfl) (by kernel_rfl) (by kernel_rfl) (by kernel_rfl) (by kernel_rfl) rfl trivial (fun _ _ _ h => h) hM (fun w hC => r_field hl rfl fld46_1) rfl ?_
  clear hl a; intro a hl
  refine d_take (i := 7) hl rfl (by kernel_rfl) (by kernel_rfl) (by kernel_rfl) (by kernel_rfl) (by kernel_rfl) rfl trivial (fun _ _ _ h => h) hM (fun w hC => r_loadC hl rfl one42 hC (by repeat (first | exact find_head | apply find_tail | apply find_skip)) (by first | exact uI_at (by omega) | rfl)) rfl ?_
  clear hl a; intro a hl
  refine d_one (i := 8) (by kernel_rfl) rfl ?_
  try clear hM
  refine id (w_call hl hh rfl trivial rfl cal86 rfl (ren_spec k4 k18 [] r.a r.hp r.hc r.hE hr.hd (apartK hh (by repeat (first | exact keeps_nil | apply keeps_cons (by repeat (first | exact find_head | apply find_tail | apply find_skip)) (by first  | rfl) | exact keeps_self | exact keeps_left | apply keeps_app | apply keeps_mv | apply keeps_skip)) (RV.mh hpre)) (by simp)) (by repeat (first | exact keeps_nil | apply keeps_cons (by repeat (first | exact find_head | apply find_tail | apply find_skip)) (by first  | rfl) | exact keeps_self | exact keeps_left | apply keeps_app | apply keeps_mv | apply keeps_skip)) (mem_keep hh (RV.mh hpre)) ?_)
  clear hl hh a w; intro vc Fc a w hR hl hh
  obtain ⟨hE, hRh, rfl⟩ := hR
  try simp only [List.cons_append, List.nil_append, List.append_assoc, List.append_nil] at hh
  obtain ⟨hp, hc, hvh⟩ := row_val hRh
  subst hvh
  have hv0 := (rnTs_bd [] r.a).1.2
  simp only [List.length_nil] at hv0
  have hM : Mem [(k1, C [.string r.p, .slice r.hp r.a.length r.hc, .slice r.bp r.ls.length r.bc] 57)] w := (by (repeat (first | exact Mem.nil | refine Mem.consR hh (by assumption) (by simp) ?_ | refine Mem.cons hh.mem (by (repeat (first | exact find_head | apply find_tail | apply find_skip)); done) ?_ | fail)); done)
  refine d_step (fun _ => hM) ?_
  refine d_take (i := 9) hl rfl (by kernel_rfl) (by kernel_rfl) (by kernel_rfl) (by kernel_rfl) (by kernel_rfl) rfl trivial (fun _ _ _ h => h) hM (fun w hC => r_build hl rfl zero46 bld46 (by simp only [fillL, setL, List.getElem?_cons_zero, List.getElem?_cons_succ, Value.cells, List.take_zero, List.take_succ_cons, List.take_nil, List.drop_zero, List.drop_succ_cons, List.drop_nil, List.length_cons, List.length_nil, List.cons_append, List.nil_append, List.append_nil, Nat.zero_add, Nat.add_zero, Nat.reduceAdd, Nat.reduceBEq, Nat.reduceEqDiff, Nat.ble, BEq.rfl, Bool.and_true, Bool.and_self, cond_true, beq_self_eq_true]; rfl)) rfl ?_
  clear hl a; intro a hl
  refine d_takeL (i := 10) hl rfl (by kernel_rfl) (by kernel_rfl) (by kernel_rfl) (by kernel_rfl) (by kernel_rfl) rfl trivial (fun _ _ _ h => h) (fun w => r_nilCheck hl rfl) rfl ?_
  clear hl a; intro a hl
  refine d_takeL (i := 11) hl rfl (by kernel_rfl) (by kernel_rfl) (by kernel_rfl) (by kernel_rfl) (by kernel_rfl) rfl trivial (fun _ _ _ h => h) (fun w => r_field hl rfl fld127_0) rfl ?_
  clear hl a; intro a hl
  refine d_one (i := 12) (by kernel_rfl) rfl ?_
  try clear hM
  refine id (w_storeA hl hh trivial agg46 rfl rfl (by repeat (first | exact find_head | apply find_tail | apply find_skip)) (by first | rfl | (simp; done) | exact hd1) (by first | (simp; done) | (simp; omega) | (rw [hz.jl]; omega) | exact um0 (by omega)) (by first | rfl | (simp; done) | rfl) (by first | exact app_gen c4_len z.xs ⟨(rnL z.vs x.l).2, rp, rc, Eo⟩ z.jb z.i hzx hj4 | exact us0 (by omega) | (simp only [setL, List.getElem?_cons_zero, List.getElem?_cons_succ, Value.cells, List.take_zero, List.take_succ_cons, List.take_nil, List.drop_zero, List.drop_succ_cons, List.drop_nil, List.length_cons, List.length_nil, List.cons_append, List.nil_append, List.append_nil, Nat.zero_add, Nat.add_zero, Nat.reduceAdd, Nat.reduceBEq, Nat.reduceEqDiff, Nat.ble, BEq.rfl, Bool.and_true, Bool.and_self, cond_true, beq_self_eq_true]; rfl)) ?_)
  clear hh w; intro w hh
  refine d_step (fun h => absurd h (by decide)) ?_
  refine d_done (by kernel_rfl) ?_
  try clear hM
  have hl2 := hl.add (t := 1) (hl.add (t := 3) (hl.add (t := 4) (hl.add (t := 5) (hl.nil) rfl) rfl) rfl) rfl; clear hl; have hl := hl2; clear hl2
  refine then_normal ?_
  refine c_seq ?_
  refine c_seq ?_
  refine c_region ?_
  refine wl (wl_val hl rfl trivial (r_field hl rfl fld57_1) ?_)
  clear hl a; intro a hl
  refine wl (w_load hl hh rfl trivial one55 rfl (by repeat (first | exact find_head | apply find_tail | apply find_skip)) (by first | exact uI_at (by omega) | rfl) ?_)
  clear hl a; intro a hl
  refine wl (wl_val hl rfl trivial (r_lenS hl rfl slc55) ?_)
  clear hl a; intro a hl
  refine wl (wl_val hl rfl trivial (r_move hl rfl) ?_)
  clear hl a; intro a hl
  refine w_nil ?_
  have hl2 := hl.add (t := 3) (hl.add (t := 4) (hl.add (t := 5) (hl.add (t := 33) (hl.add (t := 34) (hl.add (t := 35) (hl.nil) rfl) rfl) rfl) rfl) rfl) rfl; clear hl; have hl := hl2; clear hl2
  refine then_normal ?_
  refine wp_block ?_
  obtain ⟨KS0, hKS0, hk⟩ := (hl.add (t := 3) (hl.add (t := 4) (hl.add (t := 5) (hl.add (t := 33) (hl.add (t := 34) (hl.nil) rfl) rfl) rfl) rfl) rfl).name
  obtain ⟨HS0, hHS0, hh2⟩ := hh.nameT (A := [(k15, C jk15 48), (k18, MO (kInt .i64) (dnM 0 (rnTs [] r.a).1))]) (U := []) (keeps_cons (b := k15) (o' := C jk15 48) (by repeat (first | exact find_head | apply find_tail | apply find_skip)) (by first | rfl) (keeps_cons (b := k18) (o' := MO (kInt .i64) (dnM 0 (rnTs [] r.a).1)) (by repeat (first | exact find_head | apply find_tail | apply find_skip)) (by first | rfl) ((by repeat (first | exact keeps_nil | exact keeps_self | exact keeps_left | apply keeps_app | apply keeps_mv | apply keeps_skip)))))
  refine c_loop (α := NS6) (fun z => r.ls.length - z.i) (fun z a w => (NSI (rnTs [] r.a).1 r.ru.b r.ls.length z) ∧ Sl 105 ([(35, .int .i64 (z.i : Int))] ++ KS0) a ∧ Has _ w0 ([(k15, C (fl LV.c4 z.xs ++ z.jb) 48), (k18, MO (kInt .i64) (dnM 0 z.vs))] ++ (HS0 ++ (List.flatMap LV.E z.xs))) w) ⟨0, (rnTs [] r.a).1, [], jk15⟩ ⟨⟨Nat.zero_le _, rfl, rfl, by simp, hjk15.1, fun x hx => (by cases hx), fun x t hx => (by cases hx)⟩, hl.addE (t := 35) (hk) rfl (by first | rfl), hh2⟩ ?_
  clear hk hh2 hl hh a w
  intro z a w hI
  obtain ⟨hz, hl, hh⟩ := hI
  subst hKS0; subst hHS0
  simp only [List.cons_append, List.nil_append, List.append_nil, List.append_assoc] at hl hh
  have hzi := hz.i; have hzx := hz.xl
  refine c_seq ?_
  refine c_region ?_
  refine wl (wl_val hl rfl trivial (r_lss hl rfl rfl) ?_)
  clear hl a; intro a hl
  refine w_nil ?_
  have hl2 := hl.add (t := 3) (hl.add (t := 4) (hl.add (t := 5) (hl.add (t := 33) (hl.add (t := 34) (hl.add (t := 35) (hl.add (t := 36) (hl.nil) rfl) rfl) rfl) rfl) rfl) rfl) rfl; clear hl; have hl := hl2; clear hl2
  refine then_normal ?_
  refine c_seq ?_
  refine c_cond hl rfl ?_ ?_
  · intro hc0
    try simp only [decide_eq_true_eq, decide_eq_false_iff_not, Bool.not_eq_true', Bool.not_eq_false', Bool.not_eq_true, Bool.not_eq_false, Bool.and_eq_true, Bool.or_eq_true, Bool.and_eq_false_iff, Bool.or_eq_false_iff, Bool.not_not, ne_eq, Int.not_lt, Int.not_le, Decidable.not_not, beq_iff_eq, bne_iff_ne] at hc0
    obtain ⟨x, hxx⟩ : ∃ x, r.ls[z.i]? = some x := ⟨_, List.getElem?_eq_getElem (by omega)⟩
    have hxm := List.mem_of_getElem? hxx
    have hxo := hr.ls x hxm
    have hxE := RV.ml hpre hxm
    have hxa := hxo.ags.len
    obtain ⟨b2, j2, hq2, hE2, hm2⟩ := row_mem hr.bd (by omega) (RV.mb hpre)
    rw [hq2] at hl hh
    have hd2 := fl_at c4_len hxx j2
    simp only [LV.c4] at hd2
    have hj4 : 4 ≤ z.jb.length := by have h9 := hz.jl; rw [List.length_append, fl_len c4_len, hzx] at h9; omega
    refine wp_skip ?_
    refine then_normal ?_
    refine c_seq ?_
    refine wp_block ?_
    refine c_seq ?_
    refine c_region ?_
    refine wl (wl_val hl rfl trivial (r_move hl rfl) ?_)
    clear hl a; intro a hl
    refine wl (wl_val hl rfl trivial (r_indexS hl rfl rfl slc55 (by omega) (by omega) (by first | (simp only [Int.reduceToNat]; rfl) | exact toNat_add1 _ | exact toNat_add2 _ _ | exact toNat_emod _ _ | exact Int.toNat_natCast _ | rfl)) ?_)
    clear hl a; intro a hl
    first | refine wl (w_loadA hl hh rfl trivial agg48 rfl (by repeat (first | exact find_head | apply find_tail | apply find_skip)) (by first | exact hd1 | (simp only [List.getElem?_cons_zero, List.getElem?_cons_succ, Value.cells, List.take_zero, List.take_succ_cons, List.take_nil, List.drop_zero, List.drop_succ_cons, List.drop_nil, List.length_cons, List.length_nil, List.cons_append, List.nil_append, List.append_nil, Nat.zero_add, Nat.add_zero, Nat.reduceAdd, Nat.reduceBEq, Nat.reduceEqDiff, Nat.ble, BEq.rfl, Bool.and_true, Bool.and_self, cond_true, beq_self_eq_true]; rfl)) (by first | rfl | (simp; done)) ?_) | refine wl (w_loadRA hl hh rfl trivial agg48 rfl hm2 (by simp) hd2 rfl ?_) | refine wl (wl_val hl rfl trivial (r_loadA hl rfl agg48 (hh.mem _ _ (by repeat (first | exact hmem3 | exact List.mem_append_left _ hmem3 | apply List.mem_cons_of_mem | apply List.mem_append_right))) hd3 rfl) ?_)
    clear hl a; intro a hl
    refine wl (w_alloc hl hh rfl trivial zero48 rfl ?_)
    clear hl hh a w; intro k7 a w hl hh
    refine wl (wl_val hl rfl trivial (r_assign hl rfl) ?_)
    clear hl a; intro a hl
    refine wl (w_storeA hl hh trivial agg48 rfl rfl (by repeat (first | exact find_head | apply find_tail | apply find_skip)) (by first | rfl | (simp; done) | exact hd1) (by first | (simp; done) | (simp; omega) | (rw [hz.jl]; omega) | exact um0 (by omega)) (by first | rfl | (simp; done) | rfl) (by first | exact app_gen c4_len z.xs ⟨(rnL z.vs x.l).2, rp, rc, Eo⟩ z.jb z.i hzx hj4 | exact us0 (by omega) | (simp only [setL, List.getElem?_cons_zero, List.getElem?_cons_succ, Value.cells, List.take_zero, List.take_succ_cons, List.take_nil, List.drop_zero, List.drop_succ_cons, List.drop_nil, List.length_cons, List.length_nil, List.cons_append, List.nil_append, List.append_nil, Nat.zero_add, Nat.add_zero, Nat.reduceAdd, Nat.reduceBEq, Nat.reduceEqDiff, Nat.ble, BEq.rfl, Bool.and_true, Bool.and_self, cond_true, beq_self_eq_true]; rfl)) ?_)
    clear hh w; intro w hh
    refine w_nil ?_
    have hl2 := hl.add (t := 3) (hl.add (t := 4) (hl.add (t := 5) (hl.add (t := 6) (hl.add (t := 7) (hl.add (t := 33) (hl.add (t := 34) (hl.add (t := 35) (hl.nil) rfl) rfl) rfl) rfl) rfl) rfl) rfl) rfl; clear hl; have hl := hl2; clear hl2
    refine then_normal ?_
    refine c_seq ?_
    refine c_region ?_
    refine wl (wl_val hl rfl trivial (r_move hl rfl) ?_)
    clear hl a; intro a hl
    refine wl (wl_val hl rfl trivial (r_field hl rfl fld48_2) ?_)
    clear hl a; intro a hl
    refine wl (wl_val hl rfl trivial (r_field hl rfl fld46_1) ?_)
    clear hl a; intro a hl
    refine wl (w_load hl hh rfl trivial one42 rfl (by repeat (first | exact find_head | apply find_tail | apply find_skip)) (by first | exact uI_at (by omega) | rfl) ?_)
    clear hl a; intro a hl
    refine wl (w_call hl hh rfl trivial rfl cal86 rfl (ren_spec k4 k18 z.vs x.l.a x.p x.c x.E hxo.ags (apartK hh (by repeat (first | exact keeps_nil | apply keeps_cons (by repeat (first | exact find_head | apply find_tail | apply find_skip)) (by first  | rfl) | exact keeps_self | exact keeps_left | apply keeps_app | apply keeps_mv | apply keeps_skip)) hxE) (by have := hz.vl; have h9 : z.i * 65536 ≤ 64 * 65536 := Nat.mul_le_mul_right _ (by omega); omega)) (by repeat (first | exact keeps_nil | apply keeps_cons (by repeat (first | exact find_head | apply find_tail | apply find_skip)) (by first  | rfl) | exact keeps_self | exact keeps_left | apply keeps_app | apply keeps_mv | apply keeps_skip)) (mem_keep hh hxE) ?_)
    clear hl hh a w; intro vc Fc a w hR hl hh
    obtain ⟨Eo, hRo, rfl⟩ := hR
    try simp only [List.cons_append, List.nil_append, List.append_assoc, List.append_nil] at hh
    obtain ⟨rp, rc, hvr⟩ := row_val hRo
    subst hvr
    rw [show x.l.a.length = (rnL z.vs x.l).2.a.length from (rnTs_len _ _).symm] at hl
    refine wl (wl_val hl rfl trivial (r_field hl rfl fld48_2) ?_)
    clear hl a; intro a hl
    refine wl (wl_val hl rfl trivial (r_field hl rfl fld46_1) ?_)
    clear hl a; intro a hl
    refine wl (w_store hl hh trivial one42 rfl rfl (by repeat (first | exact find_head | apply find_tail | apply find_skip)) (by first | (simp; done) | (simp; omega) | (rw [hz.jl]; omega) | exact um0 (by omega)) (by first | rfl | assumption | (apply Row.one; assumption)) (by first | exact app_gen c4_len z.xs ⟨(rnL z.vs x.l).2, rp, rc, Eo⟩ z.jb z.i hzx hj4 | exact us0 (by omega) | (simp only [setL, List.getElem?_cons_zero, List.getElem?_cons_succ, Value.cells, List.take_zero, List.take_succ_cons, List.take_nil, List.drop_zero, List.drop_succ_cons, List.drop_nil, List.length_cons, List.length_nil, List.cons_append, List.nil_append, List.append_nil, Nat.zero_add, Nat.add_zero, Nat.reduceAdd, Nat.reduceBEq, Nat.reduceEqDiff, Nat.ble, BEq.rfl, Bool.and_true, Bool.and_self, cond_true, beq_self_eq_true]; rfl)) ?_)
    clear hh w; intro w hh
    refine w_nil ?_
    have hl2 := hl.add (t := 3) (hl.add (t := 4) (hl.add (t := 5) (hl.add (t := 6) (hl.add (t := 7) (hl.add (t := 33) (hl.add (t := 34) (hl.add (t := 35) (hl.nil) rfl) rfl) rfl) rfl) rfl) rfl) rfl) rfl; clear hl; have hl := hl2; clear hl2
    refine then_normal ?_
    refine c_draw [(k17, C [.string r.p, .slice hp r.a.length hc, .slice (some ⟨k15, 0, none⟩) r.ls.length r.ls.length, .int .i64 0, .slice none 0 0] 127), (k7, C [.int .u8 x.l.k, .int .u8 x.l.o, .string x.l.p, .slice rp (rnL z.vs x.l).2.a.length rc] 48)] [6, 7] mixed hh ?_
    clear hh w; intro w hh
    have hM : Mem [(k17, C [.string r.p, .slice hp r.a.length hc, .slice (some ⟨k15, 0, none⟩) r.ls.length r.ls.length, .int .i64 0, .slice none 0 0] 127), (k7, C [.int .u8 x.l.k, .int .u8 x.l.o, .string x.l.p, .slice rp (rnL z.vs x.l).2.a.length rc] 48)] w := (by (repeat (first | exact Mem.nil | refine Mem.consR hh (by assumption) (by simp) ?_ | refine Mem.cons hh.mem (by (repeat (first | exact find_head | apply find_tail | apply find_skip)); done) ?_ | fail)); done)
    refine d_take (i := 0) hl rfl (by kernel_rfl) (by kernel_rfl) (by kernel_rfl) (by kernel_rfl) (by kernel_rfl) rfl trivial (fun _ _ _ h => h) hM (fun w hC => r_move hl rfl) rfl ?_
    clear hl a; intro a hl
    refine d_take (i := 1) hl rfl (by kernel_rfl) (by kernel_rfl) (by kernel_rfl) (by kernel_rfl) (by kernel_rfl) rfl trivial (fun _ _ _ h => h) hM (fun w hC => r_nilCheck hl rfl) rfl ?_
    clear hl a; intro a hl
    refine d_take (i := 2) hl rfl (by kernel_rfl) (by kernel_rfl) (by kernel_rfl) (by kernel_rfl) (by kernel_rfl) rfl trivial (fun _ _ _ h => h) hM (fun w hC => r_field hl rfl fld127_1) rfl ?_
    clear hl a; intro a hl
    refine d_take (i := 3) hl rfl (by kernel_rfl) (by kernel_rfl) (by kernel_rfl) (by kernel_rfl) (by kernel_rfl) rfl trivial (fun _ _ _ h => h) hM (fun w hC => r_loadC hl rfl one55 hC (by repeat (first | exact find_head | apply find_tail | apply find_skip)) (by first | exact uI_at (by omega) | rfl)) rfl ?_
    clear hl a; intro a hl
    refine d_take (i := 4) hl rfl (by kernel_rfl) (by kernel_rfl) (by kernel_rfl) (by kernel_rfl) (by kernel_rfl) rfl trivial (fun _ _ _ h => h) hM (fun w hC => r_move hl rfl) rfl ?_
    clear hl a; intro a hl
    refine d_take (i := 5) hl rfl (by kernel_rfl) (by kernel_rfl) (by kernel_rfl) (by kernel_rfl) (by kernel_rfl) rfl trivial (fun _ _ _ h => h) hM (fun w hC => r_loadCA hl rfl agg48 hC (by repeat (first | exact find_head | apply find_tail | apply find_skip)) (by first | exact hd1 | (simp only [List.getElem?_cons_zero, List.getElem?_cons_succ, Value.cells, List.take_zero, List.take_succ_cons, List.take_nil, List.drop_zero, List.drop_succ_cons, List.drop_nil, List.length_cons, List.length_nil, List.cons_append, List.nil_append, List.append_nil, Nat.zero_add, Nat.add_zero, Nat.reduceAdd, Nat.reduceBEq, Nat.reduceEqDiff, Nat.ble, BEq.rfl, Bool.and_true, Bool.and_self, cond_true, beq_self_eq_true]; rfl)) (by first | rfl | (simp; done))) rfl ?_
    clear hl a; intro a hl
    refine d_takeL (i := 6) hl rfl (by kernel_rfl) (by kernel_rfl) (by kernel_rfl) (by kernel_rfl) (by kernel_rfl) rfl trivial (fun _ _ _ h => h) (fun w => r_indexS hl rfl rfl slc55 (by omega) (by omega) (by first | (simp only [Int.reduceToNat]; rfl) | exact toNat_add1 _ | exact toNat_add2 _ _ | exact toNat_emod _ _ | exact Int.toNat_natCast _ | rfl)) rfl ?_
    clear hl a; intro a hl
    refine d_one (i := 7) (by kernel_rfl) rfl ?_
    try clear hM
    refine id (w_storeA hl hh trivial agg48 rfl rfl (by repeat (first | exact find_head | apply find_tail | apply find_skip)) (by first | rfl | (simp; done) | exact hd1) (by first | (simp; done) | (simp; omega) | (rw [hz.jl]; omega) | exact um0 (by omega)) (by first | rfl | (simp; done) | rfl) (by first | exact app_gen c4_len z.xs ⟨(rnL z.vs x.l).2, rp, rc, Eo⟩ z.jb z.i hzx hj4 | exact us0 (by omega) | (simp only [setL, List.getElem?_cons_zero, List.getElem?_cons_succ, Value.cells, List.take_zero, List.take_succ_cons, List.take_nil, List.drop_zero, List.drop_succ_cons, List.drop_nil, List.length_cons, List.length_nil, List.cons_append, List.nil_append, List.append_nil, Nat.zero_add, Nat.add_zero, Nat.reduceAdd, Nat.reduceBEq, Nat.reduceEqDiff, Nat.ble, BEq.rfl, Bool.and_true, Bool.and_self, cond_true, beq_self_eq_true]; rfl)) ?_)
    clear hh w; intro w hh
    refine d_step (fun h => absurd h (by decide)) ?_
    refine d_done (by kernel_rfl) ?_
    try clear hM
    have hl2 := hl.add (t := 3) (hl.add (t := 4) (hl.add (t := 5) (hl.add (t := 33) (hl.add (t := 34) (hl.add (t := 35) (hl.nil) rfl) rfl) rfl) rfl) rfl) rfl; clear hl; have hl := hl2; clear hl2
    have hh9 := has_sw hh (A := List.flatMap LV.E z.xs ++ Eo) (by repeat (first | exact keeps_nil | apply keeps_cons (by repeat (first | exact find_head | apply find_tail | apply find_skip)) (by first  | rfl) | exact keeps_self | exact keeps_left | apply keeps_app | apply keeps_mv | apply keeps_skip)) (A' := List.flatMap LV.E (z.xs ++ [(⟨(rnL z.vs x.l).2, rp, rc, Eo⟩ : LV)])) (by rw [List.flatMap_append]; simp)
    clear hh; have hh := hh9; clear hh9
    try simp only [List.append_assoc, List.cons_append, List.nil_append] at hh
    refine blk_normal ?_
    refine then_normal ?_
    refine c_region ?_
    first | refine wl (wl_val hl rfl trivial (r_add hl rfl rfl (by simp only [Fits]; omega)) ?_) | refine wl (wl_val hl rfl trivial (r_addW hl rfl rfl) ?_)
    clear hl a; intro a hl
    refine wl (wl_val hl rfl trivial (r_move hl rfl) ?_)
    clear hl a; intro a hl
    refine w_nil ?_
    have hl2 := hl.add (t := 3) (hl.add (t := 4) (hl.add (t := 5) (hl.add (t := 33) (hl.add (t := 34) (hl.add (t := 35) (hl.nil) rfl) rfl) rfl) rfl) rfl) rfl; clear hl; have hl := hl2; clear hl2
    refine then_normal ?_
    refine ⟨⟨z.i + 1, (rnTs z.vs x.l.a).1, z.xs ++ [⟨(rnL z.vs x.l).2, rp, rc, Eo⟩], z.jb.drop 4⟩, (by simp only; omega), hz.next (lt_at hxx) hxo (by omega) (by omega) hRo hj4, hl.addE (t := 35) (hl.addE (t := 3) (hl.addE (t := 4) (hl.addE (t := 5) (hl.addE (t := 33) (hl.addE (t := 34) (hl.nil) rfl (by first | rfl | exact congrArg (Value.int .i64) (show (z.i : Int) + 1 = ((z.i + 1 : Nat) : Int) by omega) | (rw [hq2]))) rfl (by first | rfl | exact congrArg (Value.int .i64) (show (z.i : Int) + 1 = ((z.i + 1 : Nat) : Int) by omega) | (rw [hq2]))) rfl (by first | rfl | exact congrArg (Value.int .i64) (show (z.i : Int) + 1 = ((z.i + 1 : Nat) : Int) by omega) | (rw [hq2]))) rfl (by first | rfl | exact congrArg (Value.int .i64) (show (z.i : Int) + 1 = ((z.i + 1 : Nat) : Int) by omega) | (rw [hq2]))) rfl (by first | rfl | exact congrArg (Value.int .i64) (show (z.i : Int) + 1 = ((z.i + 1 : Nat) : Int) by omega) | (rw [hq2]))) rfl (by first | rfl | exact congrArg (Value.int .i64) (show (z.i : Int) + 1 = ((z.i + 1 : Nat) : Int) by omega) | (rw [hq2])), hh.keep (by repeat (first | exact keeps_nil | apply keeps_cons (by repeat (first | exact find_head | apply find_tail | apply find_skip)) (by first  | (rw [hq2]) | rfl) | exact keeps_self | exact keeps_left | apply keeps_app | apply keeps_mv | apply keeps_skip))⟩
  · intro hc0
    try simp only [decide_eq_true_eq, decide_eq_false_iff_not, Bool.not_eq_true', Bool.not_eq_false', Bool.not_eq_true, Bool.not_eq_false, Bool.and_eq_true, Bool.or_eq_true, Bool.and_eq_false_iff, Bool.or_eq_false_iff, Bool.not_not, ne_eq, Int.not_lt, Int.not_le, Decidable.not_not, beq_iff_eq, bne_iff_ne] at hc0
    have hze : z.i = r.ls.length := by omega
    have hjb := jb_done hz.jl (fl_len c4_len _) (by rw [hzx, hze])
    have hzs := hz.st
    rw [hze, ← hrb, List.take_length] at hzs
    rw [hjb, List.append_nil] at hh
    have hvl6 : z.vs.length ≤ 1000000 := by rw [hzs] at hvs; exact hvs
    refine wp_exit ?_
    refine then_exit ?_
    refine then_exit ?_
    refine blk_exit ?_
    refine then_normal ?_
    refine c_seq ?_
    refine c_region ?_
    refine wl (wl_val hl rfl trivial (r_move hl rfl) ?_)
    clear hl a; intro a hl
    refine wl (w_load hl hh rfl trivial one103 rfl (by repeat (first | exact find_head | apply find_tail | apply find_skip)) (by first | exact uI_at (by omega) | rfl) ?_)
    clear hl a; intro a hl
    refine wl (w_lenM Tryz.underlying103 hl hh rfl trivial rfl (by repeat (first | exact find_head | apply find_tail | apply find_skip)) ?_)
    clear hl a; intro a hl
    rw [dn_len] at hl
    refine wl (wl_val hl rfl trivial (r_nilCheck hl rfl) ?_)
    clear hl a; intro a hl
    refine wl (wl_val hl rfl trivial (r_field hl rfl fld127_2) ?_)
    clear hl a; intro a hl
    refine wl (w_store hl hh trivial one3 rfl rfl (by repeat (first | exact find_head | apply find_tail | apply find_skip)) (by first | (simp; done) | (simp; omega) | (rw [hz.jl]; omega) | exact um0 (by omega)) (by first | rfl | assumption | (apply Row.one; assumption)) (by first | exact app_gen c4_len z.xs ⟨(rnL z.vs x.l).2, rp, rc, Eo⟩ z.jb z.i hzx hj4 | exact us0 (by omega) | (simp only [setL, List.getElem?_cons_zero, List.getElem?_cons_succ, Value.cells, List.take_zero, List.take_succ_cons, List.take_nil, List.drop_zero, List.drop_succ_cons, List.drop_nil, List.length_cons, List.length_nil, List.cons_append, List.nil_append, List.append_nil, Nat.zero_add, Nat.add_zero, Nat.reduceAdd, Nat.reduceBEq, Nat.reduceEqDiff, Nat.ble, BEq.rfl, Bool.and_true, Bool.and_self, cond_true, beq_self_eq_true]; rfl)) ?_)
    clear hh w; intro w hh
    refine w_nil ?_
    have hl2 := hl.add (t := 3) (hl.nil) rfl; clear hl; have hl := hl2; clear hl2
    refine then_normal ?_
    refine c_seq ?_
    refine c_region ?_
    refine wl (wl_val hl rfl trivial (r_move hl rfl) ?_)
    clear hl a; intro a hl
    refine wl (wl_val hl rfl trivial (r_move hl rfl) ?_)
    clear hl a; intro a hl
    refine wl (wl_val hl rfl trivial (r_nilCheck hl rfl) ?_)
    clear hl a; intro a hl
    refine wl (wl_val hl rfl trivial (r_field hl rfl fld127_2) ?_)
    clear hl a; intro a hl
    refine wl (w_load hl hh rfl trivial one3 rfl (by repeat (first | exact find_head | apply find_tail | apply find_skip)) (by first | exact uI_at (by omega) | rfl) ?_)
    clear hl a; intro a hl
    refine wl (w_makeSliceN hl hh rfl trivial app125 zero49 rfl rfl (by omega) (by decide) ?_)
    clear hl hh a w; intro k65 jk65 a w hjk65 hl hh
    refine wl (wl_val hl rfl trivial (r_nilCheck hl rfl) ?_)
    clear hl a; intro a hl
    refine wl (wl_val hl rfl trivial (r_field hl rfl fld127_3) ?_)
    clear hl a; intro a hl
    refine wl (w_store hl hh trivial one125 rfl rfl (by repeat (first | exact find_head | apply find_tail | apply find_skip)) (by first | (simp; done) | (simp; omega) | (rw [hz.jl]; omega) | exact um0 (by omega)) (by first | rfl | assumption | (apply Row.one; assumption)) (by first | exact app_gen c4_len z.xs ⟨(rnL z.vs x.l).2, rp, rc, Eo⟩ z.jb z.i hzx hj4 | exact us0 (by omega) | (simp only [setL, List.getElem?_cons_zero, List.getElem?_cons_succ, Value.cells, List.take_zero, List.take_succ_cons, List.take_nil, List.drop_zero, List.drop_succ_cons, List.drop_nil, List.length_cons, List.length_nil, List.cons_append, List.nil_append, List.append_nil, Nat.zero_add, Nat.add_zero, Nat.reduceAdd, Nat.reduceBEq, Nat.reduceEqDiff, Nat.ble, BEq.rfl, Bool.and_true, Bool.and_self, cond_true, beq_self_eq_true]; rfl)) ?_)
    clear hh w; intro w hh
    refine w_nil ?_
    have hl2 := hl.add (t := 3) (hl.nil) rfl; clear hl; have hl := hl2; clear hl2
    rw [zeros_uI hjk65] at hh
    refine then_normal ?_
    refine c_seq ?_
    refine c_seq ?_
    refine c_region ?_
    refine wl (wl_val hl rfl trivial (r_move hl rfl) ?_)
    clear hl a; intro a hl
    refine wl (wl_val hl rfl trivial (r_nilCheck hl rfl) ?_)
    clear hl a; intro a hl
    refine wl (wl_val hl rfl trivial (r_field hl rfl fld127_1) ?_)
    clear hl a; intro a hl
    refine wl (w_load hl hh rfl trivial one55 rfl (by repeat (first | exact find_head | apply find_tail | apply find_skip)) (by first | exact uI_at (by omega) | rfl) ?_)
    clear hl a; intro a hl
    refine wl (wl_val hl rfl trivial (r_lenS hl rfl slc55) ?_)
    clear hl a; intro a hl
    refine wl (wl_val hl rfl trivial (r_move hl rfl) ?_)
    clear hl a; intro a hl
    refine w_nil ?_
    have hl2 := hl.add (t := 3) (hl.add (t := 71) (hl.add (t := 72) (hl.add (t := 73) (hl.nil) rfl) rfl) rfl) rfl; clear hl; have hl := hl2; clear hl2
    refine then_normal ?_
    refine wp_block ?_
    obtain ⟨KS1, hKS1, hk⟩ := (hl.add (t := 3) (hl.add (t := 71) (hl.add (t := 72) (hl.nil) rfl) rfl) rfl).name
    obtain ⟨HS1, hHS1, hh2⟩ := hh.name (keeps_cons (b := k65) (o' := C (fl uI (List.replicate z.vs.length 0)) 49) (by repeat (first | exact find_head | apply find_tail | apply find_skip)) (by first | rfl) (keeps_nil))
    refine c_loop (α := OC) (fun y => r.ls.length - y.i) (fun y a w => (y.i ≤ r.ls.length ∧ y.oc = ocB (z.xs.map LV.l) y.i (List.replicate z.vs.length 0)) ∧ Sl 105 ([(73, .int .i64 (y.i : Int))] ++ KS1) a ∧ Has _ w0 ([(k65, C (fl uI y.oc) 49)] ++ HS1) w) ⟨0, List.replicate z.vs.length 0⟩ ⟨⟨Nat.zero_le _, rfl⟩, hl.addE (t := 73) (hk) rfl (by first | rfl), hh2⟩ ?_
    clear hk hh2 hl hh a w
    intro y a w hI
    obtain ⟨⟨hyi, hyo⟩, hl, hh⟩ := hI
    subst hKS1; subst hHS1
    simp only [List.cons_append, List.nil_append, List.append_nil, List.append_assoc] at hl hh
    have hyl : y.oc.length = z.vs.length := by rw [hyo, ocB_len]; simp
    refine c_seq ?_
    refine c_region ?_
    refine wl (wl_val hl rfl trivial (r_lss hl rfl rfl) ?_)
    clear hl a; intro a hl
    refine w_nil ?_
    have hl2 := hl.add (t := 3) (hl.add (t := 71) (hl.add (t := 72) (hl.add (t := 73) (hl.add (t := 74) (hl.nil) rfl) rfl) rfl) rfl) rfl; clear hl; have hl := hl2; clear hl2
    refine then_normal ?_
    refine c_seq ?_
    refine c_cond hl rfl ?_ ?_
    · intro hc1
      try simp only [decide_eq_true_eq, decide_eq_false_iff_not, Bool.not_eq_true', Bool.not_eq_false', Bool.not_eq_true, Bool.not_eq_false, Bool.and_eq_true, Bool.or_eq_true, Bool.and_eq_false_iff, Bool.or_eq_false_iff, Bool.not_not, ne_eq, Int.not_lt, Int.not_le, Decidable.not_not, beq_iff_eq, bne_iff_ne] at hc1
      obtain ⟨x, hxx⟩ : ∃ x, z.xs[y.i]? = some x := ⟨_, List.getElem?_eq_getElem (by omega)⟩
      have hxm := List.mem_of_getElem? hxx
      have hxo := hz.ok x hxm
      have hxa := hxo.ags.len
      have hd1 := c4_at hxx
      simp only [LV.c4] at hd1
      refine wp_skip ?_
      refine then_normal ?_
      refine c_seq ?_
      refine wp_block ?_
      refine c_seq ?_
      refine c_region ?_
      refine wl (wl_val hl rfl trivial (r_move hl rfl) ?_)
      clear hl a; intro a hl
      refine wl (wl_val hl rfl trivial (r_indexS hl rfl rfl slc55 (by omega) (by omega) (by first | (simp only [Int.reduceToNat]; rfl) | exact toNat_add1 _ | exact toNat_add2 _ _ | exact toNat_emod _ _ | exact Int.toNat_natCast _ | rfl)) ?_)
      clear hl a; intro a hl
      first | refine wl (w_loadA hl hh rfl trivial agg48 rfl (by repeat (first | exact find_head | apply find_tail | apply find_skip)) (by first | exact hd1 | (simp only [List.getElem?_cons_zero, List.getElem?_cons_succ, Value.cells, List.take_zero, List.take_succ_cons, List.take_nil, List.drop_zero, List.drop_succ_cons, List.drop_nil, List.length_cons, List.length_nil, List.cons_append, List.nil_append, List.append_nil, Nat.zero_add, Nat.add_zero, Nat.reduceAdd, Nat.reduceBEq, Nat.reduceEqDiff, Nat.ble, BEq.rfl, Bool.and_true, Bool.and_self, cond_true, beq_self_eq_true]; rfl)) (by first | rfl | (simp; done)) ?_) | refine wl (w_loadRA hl hh rfl trivial agg48 rfl hm2 (by simp) hd2 rfl ?_) | refine wl (wl_val hl rfl trivial (r_loadA hl rfl agg48 (hh.mem _ _ (by repeat (first | exact hmem3 | exact List.mem_append_left _ hmem3 | apply List.mem_cons_of_mem | apply List.mem_append_right))) hd3 rfl) ?_)
      clear hl a; intro a hl
      refine wl (w_alloc hl hh rfl trivial zero48 rfl ?_)
      clear hl hh a w; intro k9 a w hl hh
      refine wl (wl_val hl rfl trivial (r_assign hl rfl) ?_)
      clear hl a; intro a hl
      refine wl (w_storeA hl hh trivial agg48 rfl rfl (by repeat (first | exact find_head | apply find_tail | apply find_skip)) (by first | rfl | (simp; done) | exact hd1) (by first | (simp; done) | (simp; omega) | (rw [hz.jl]; omega) | exact um0 (by omega)) (by first | rfl | (simp; done) | rfl) (by first | exact app_gen c4_len z.xs ⟨(rnL z.vs x.l).2, rp, rc, Eo⟩ z.jb z.i hzx hj4 | exact us0 (by omega) | (simp only [setL, List.getElem?_cons_zero, List.getElem?_cons_succ, Value.cells, List.take_zero, List.take_succ_cons, List.take_nil, List.drop_zero, List.drop_succ_cons, List.drop_nil, List.length_cons, List.length_nil, List.cons_append, List.nil_append, List.append_nil, Nat.zero_add, Nat.add_zero, Nat.reduceAdd, Nat.reduceBEq, Nat.reduceEqDiff, Nat.ble, BEq.rfl, Bool.and_true, Bool.and_self, cond_true, beq_self_eq_true]; rfl)) ?_)
      clear hh w; intro w hh
      refine w_nil ?_
      have hl2 := hl.add (t := 3) (hl.add (t := 8) (hl.add (t := 9) (hl.add (t := 71) (hl.add (t := 72) (hl.add (t := 73) (hl.nil) rfl) rfl) rfl) rfl) rfl) rfl; clear hl; have hl := hl2; clear hl2
      refine then_normal ?_
      refine c_seq ?_
      refine c_region ?_
      refine wl (wl_val hl rfl trivial (r_field hl rfl fld48_2) ?_)
      clear hl a; intro a hl
      refine wl (wl_val hl rfl trivial (r_field hl rfl fld46_1) ?_)
      clear hl a; intro a hl
      refine wl (w_load hl hh rfl trivial one42 rfl (by repeat (first | exact find_head | apply find_tail | apply find_skip)) (by first | exact uI_at (by omega) | rfl) ?_)
      clear hl a; intro a hl
      refine wl (wl_val hl rfl trivial (r_lenS hl rfl slc42) ?_)
      clear hl a; intro a hl
      refine wl (wl_val hl rfl trivial (r_move hl rfl) ?_)
      clear hl a; intro a hl
      refine w_nil ?_
      have hl2 := hl.add (t := 3) (hl.add (t := 8) (hl.add (t := 71) (hl.add (t := 72) (hl.add (t := 73) (hl.add (t := 80) (hl.add (t := 81) (hl.add (t := 82) (hl.nil) rfl) rfl) rfl) rfl) rfl) rfl) rfl) rfl; clear hl; have hl := hl2; clear hl2
      refine then_normal ?_
      refine wp_block ?_
      obtain ⟨KS2, hKS2, hk⟩ := (hl.add (t := 3) (hl.add (t := 8) (hl.add (t := 71) (hl.add (t := 72) (hl.add (t := 73) (hl.add (t := 80) (hl.add (t := 81) (hl.nil) rfl) rfl) rfl) rfl) rfl) rfl) rfl).name
      obtain ⟨HS2, hHS2, hh2⟩ := hh.name (keeps_cons (b := k65) (o' := C (fl uI y.oc) 49) (by repeat (first | exact find_head | apply find_tail | apply find_skip)) (by first | rfl) (keeps_nil))
      refine c_loop (α := OC) (fun u => x.l.a.length - u.i) (fun u a w => (u.i ≤ x.l.a.length ∧ u.oc = ocTs y.i y.oc (x.l.a.take u.i)) ∧ Sl 105 ([(82, .int .i64 (u.i : Int))] ++ KS2) a ∧ Has _ w0 ([(k65, C (fl uI u.oc) 49)] ++ HS2) w) ⟨0, y.oc⟩ ⟨⟨Nat.zero_le _, rfl⟩, hl.addE (t := 82) (hk) rfl (by first | rfl), hh2⟩ ?_
      clear hk hh2 hl hh a w
      intro u a w hI
      obtain ⟨⟨hui, huo⟩, hl, hh⟩ := hI
      subst hKS2; subst hHS2
      simp only [List.cons_append, List.nil_append, List.append_nil, List.append_assoc] at hl hh
      have hul : u.oc.length = z.vs.length := by rw [huo, ocTs_len]; exact hyl
      refine c_seq ?_
      refine c_region ?_
      refine wl (wl_val hl rfl trivial (r_lss hl rfl rfl) ?_)
      clear hl a; intro a hl
      refine w_nil ?_
      have hl2 := hl.add (t := 3) (hl.add (t := 8) (hl.add (t := 71) (hl.add (t := 72) (hl.add (t := 73) (hl.add (t := 80) (hl.add (t := 81) (hl.add (t := 82) (hl.add (t := 83) (hl.nil) rfl) rfl) rfl) rfl) rfl) rfl) rfl) rfl) rfl; clear hl; have hl := hl2; clear hl2
      refine then_normal ?_
      refine c_seq ?_
      refine c_cond hl rfl ?_ ?_
      · intro hc2
        try simp only [decide_eq_true_eq, decide_eq_false_iff_not, Bool.not_eq_true', Bool.not_eq_false', Bool.not_eq_true, Bool.not_eq_false, Bool.and_eq_true, Bool.or_eq_true, Bool.and_eq_false_iff, Bool.or_eq_false_iff, Bool.not_not, ne_eq, Int.not_lt, Int.not_le, Decidable.not_not, beq_iff_eq, bne_iff_ne] at hc2
        obtain ⟨t, htt⟩ : ∃ t, x.l.a[u.i]? = some t := ⟨_, List.getElem?_eq_getElem (by omega)⟩
        have htm := List.mem_of_getElem? htt
        obtain ⟨b3, j3, hq3, hjl3, hjc3, hE3⟩ := row_pos hxo.ags.row (by omega)
        have hmem3 : (b3, C (fl tmc x.l.a ++ j3) 54) ∈ List.flatMap LV.E z.xs := xs_E hxm (by rw [hE3]; exact List.mem_singleton.2 rfl)
        rw [hq3] at hl
        have hd3 := fl_at tmc_len htt j3
        simp only [tmc] at hd3
        refine wp_skip ?_
        refine then_normal ?_
        refine c_seq ?_
        refine wp_block ?_
        refine c_seq ?_
        refine c_region ?_
        refine wl (wl_val hl rfl trivial (r_indexS hl rfl rfl slc42 (by omega) (by omega) (by first | (simp only [Int.reduceToNat]; rfl) | exact toNat_add1 _ | exact toNat_add2 _ _ | exact toNat_emod _ _ | exact Int.toNat_natCast _ | rfl)) ?_)
        clear hl a; intro a hl
        first | refine wl (w_loadA hl hh rfl trivial agg54 rfl (by repeat (first | exact find_head | apply find_tail | apply find_skip)) (by first | exact hd1 | (simp only [List.getElem?_cons_zero, List.getElem?_cons_succ, Value.cells, List.take_zero, List.take_succ_cons, List.take_nil, List.drop_zero, List.drop_succ_cons, List.drop_nil, List.length_cons, List.length_nil, List.cons_append, List.nil_append, List.append_nil, Nat.zero_add, Nat.add_zero, Nat.reduceAdd, Nat.reduceBEq, Nat.reduceEqDiff, Nat.ble, BEq.rfl, Bool.and_true, Bool.and_self, cond_true, beq_self_eq_true]; rfl)) (by first | rfl | (simp; done)) ?_) | refine wl (w_loadRA hl hh rfl trivial agg54 rfl hm2 (by simp) hd2 rfl ?_) | refine wl (wl_val hl rfl trivial (r_loadA hl rfl agg54 (hh.mem _ _ (by repeat (first | exact hmem3 | exact List.mem_append_left _ hmem3 | apply List.mem_cons_of_mem | apply List.mem_append_right))) hd3 rfl) ?_)
        clear hl a; intro a hl
        refine wl (w_alloc hl hh rfl trivial zero54 rfl ?_)
        clear hl hh a w; intro k11 a w hl hh
        refine wl (w_storeA hl hh trivial agg54 rfl rfl (by repeat (first | exact find_head | apply find_tail | apply find_skip)) (by first | rfl | (simp; done) | exact hd1) (by first | (simp; done) | (simp; omega) | (rw [hz.jl]; omega) | exact um0 (by omega)) (by first | rfl | (simp; done) | rfl) (by first | exact app_gen c4_len z.xs ⟨(rnL z.vs x.l).2, rp, rc, Eo⟩ z.jb z.i hzx hj4 | exact us0 (by omega) | (simp only [setL, List.getElem?_cons_zero, List.getElem?_cons_succ, Value.cells, List.take_zero, List.take_succ_cons, List.take_nil, List.drop_zero, List.drop_succ_cons, List.drop_nil, List.length_cons, List.length_nil, List.cons_append, List.nil_append, List.append_nil, Nat.zero_add, Nat.add_zero, Nat.reduceAdd, Nat.reduceBEq, Nat.reduceEqDiff, Nat.ble, BEq.rfl, Bool.and_true, Bool.and_self, cond_true, beq_self_eq_true]; rfl)) ?_)
        clear hh w; intro w hh
        refine w_nil ?_
        have hl2 := hl.add (t := 3) (hl.add (t := 8) (hl.add (t := 11) (hl.add (t := 71) (hl.add (t := 72) (hl.add (t := 73) (hl.add (t := 80) (hl.add (t := 81) (hl.add (t := 82) (hl.nil) rfl) rfl) rfl) rfl) rfl) rfl) rfl) rfl) rfl; clear hl; have hl := hl2; clear hl2
        refine then_normal ?_
        refine c_seq ?_
        refine c_region ?_
        refine wl (wl_val hl rfl trivial (r_field hl rfl fld54_0) ?_)
        clear hl a; intro a hl
        refine wl (w_load hl hh rfl trivial one52 rfl (by repeat (first | exact find_head | apply find_tail | apply find_skip)) (by first | exact uI_at (by omega) | rfl) ?_)
        clear hl a; intro a hl
        refine wl (wl_val hl rfl trivial (r_eql hl rfl rfl) ?_)
        clear hl a; intro a hl
        refine w_nil ?_
        have hl2 := hl.add (t := 3) (hl.add (t := 8) (hl.add (t := 11) (hl.add (t := 71) (hl.add (t := 72) (hl.add (t := 73) (hl.add (t := 80) (hl.add (t := 81) (hl.add (t := 82) (hl.add (t := 88) (hl.nil) rfl) rfl) rfl) rfl) rfl) rfl) rfl) rfl) rfl) rfl; clear hl; have hl := hl2; clear hl2
        refine then_normal ?_
        refine c_cond hl rfl ?_ ?_
        · intro hc3
          try simp only [decide_eq_true_eq, decide_eq_false_iff_not, Bool.not_eq_true', Bool.not_eq_false', Bool.not_eq_true, Bool.not_eq_false, Bool.and_eq_true, Bool.or_eq_true, Bool.and_eq_false_iff, Bool.or_eq_false_iff, Bool.not_not, ne_eq, Int.not_lt, Int.not_le, Decidable.not_not, beq_iff_eq, bne_iff_ne] at hc3
          have hvb := hz.vb x t hxm htm hc3
          obtain ⟨v, hvv⟩ : ∃ v : Nat, t.v = (v : Int) := ⟨t.v.toNat, by omega⟩
          refine c_draw [(k17, C [.string r.p, .slice hp r.a.length hc, .slice (some ⟨k15, 0, none⟩) r.ls.length r.ls.length, .int .i64 (z.vs.length : Int), .slice (some ⟨k65, 0, none⟩) z.vs.length z.vs.length] 127), (k11, C [.int .u8 t.k, .int .i64 t.v, .int .i64 t.i, .string t.s] 54), (k65, C (fl uI u.oc) 49)] [11, 12, 13] mixed hh ?_
          clear hh w; intro w hh
          have hM : Mem [(k17, C [.string r.p, .slice hp r.a.length hc, .slice (some ⟨k15, 0, none⟩) r.ls.length r.ls.length, .int .i64 (z.vs.length : Int), .slice (some ⟨k65, 0, none⟩) z.vs.length z.vs.length] 127), (k11, C [.int .u8 t.k, .int .i64 t.v, .int .i64 t.i, .string t.s] 54), (k65, C (fl uI u.oc) 49)] w := (by (repeat (first | exact Mem.nil | refine Mem.consR hh (by assumption) (by simp) ?_ | refine Mem.cons hh.mem (by (repeat (first | exact find_head | apply find_tail | apply find_skip)); done) ?_ | fail)); done)
          refine d_take (i := 0) hl rfl (by kernel_rfl) (by kernel_rfl) (by kernel_rfl) (by kernel_rfl) (by kernel_rfl) rfl trivial (fun _ _ _ h => h) hM (fun w hC => r_move hl rfl) rfl ?_
          clear hl a; intro a hl
          refine d_take (i := 1) hl rfl (by kernel_rfl) (by kernel_rfl) (by kernel_rfl) (by kernel_rfl) (by kernel_rfl) rfl trivial (fun _ _ _ h => h) hM (fun w hC => r_nilCheck hl rfl) rfl ?_
          clear hl a; intro a hl
          refine d_take (i := 2) hl rfl (by kernel_rfl) (by kernel_rfl) (by kernel_rfl) (by kernel_rfl) (by kernel_rfl) rfl trivial (fun _ _ _ h => h) hM (fun w hC => r_field hl rfl fld127_3) rfl ?_
          clear hl a; intro a hl
          refine d_take (i := 3) hl rfl (by kernel_rfl) (by kernel_rfl) (by kernel_rfl) (by kernel_rfl) (by kernel_rfl) rfl trivial (fun _ _ _ h => h) hM (fun w hC => r_loadC hl rfl one125 hC (by repeat (first | exact find_head | apply find_tail | apply find_skip)) (by first | exact uI_at (by omega) | rfl)) rfl ?_
          clear hl a; intro a hl
          refine d_take (i := 4) hl rfl (by kernel_rfl) (by kernel_rfl) (by kernel_rfl) (by kernel_rfl) (by kernel_rfl) rfl trivial (fun _ _ _ h => h) hM (fun w hC => r_field hl rfl fld54_1) rfl ?_
          clear hl a; intro a hl
          refine d_take (i := 5) hl rfl (by kernel_rfl) (by kernel_rfl) (by kernel_rfl) (by kernel_rfl) (by kernel_rfl) rfl trivial (fun _ _ _ h => h) hM (fun w hC => r_loadC hl rfl one3 hC (by repeat (first | exact find_head | apply find_tail | apply find_skip)) (by first | exact uI_at (by omega) | rfl)) rfl ?_
          clear hl a; intro a hl
          rw [hvv] at hl
          refine d_take (i := 6) hl rfl (by kernel_rfl) (by kernel_rfl) (by kernel_rfl) (by kernel_rfl) (by kernel_rfl) rfl trivial (fun _ _ _ h => h) hM (fun w hC => r_indexS hl rfl rfl slc125 (by omega) (by omega) (by first | (simp only [Int.reduceToNat]; rfl) | exact toNat_add1 _ | exact toNat_add2 _ _ | exact toNat_emod _ _ | exact Int.toNat_natCast _ | rfl)) rfl ?_
          clear hl a; intro a hl
          refine d_take (i := 7) hl rfl (by kernel_rfl) (by kernel_rfl) (by kernel_rfl) (by kernel_rfl) (by kernel_rfl) rfl trivial (fun _ _ _ h => h) hM (fun w hC => r_loadC hl rfl one49 hC (by repeat (first | exact find_head | apply find_tail | apply find_skip)) (by first | exact uI_at (by omega) | rfl)) rfl ?_
          clear hl a; intro a hl
          refine d_take (i := 8) hl rfl (by kernel_rfl) (by kernel_rfl) (by kernel_rfl) (by kernel_rfl) (by kernel_rfl) rfl trivial (fun _ _ _ h => h) hM (fun w hC => r_move hl rfl) rfl ?_
          clear hl a; intro a hl
          first | refine d_take (i := 9) hl rfl (by kernel_rfl) (by kernel_rfl) (by kernel_rfl) (by kernel_rfl) (by kernel_rfl) rfl trivial (fun _ _ _ h => h) hM (fun w hC => r_conv hl rfl Tryz.underlying3 Tryz.underlying106 (by simp only [Fits]; omega)) rfl ?_ | refine d_take (i := 9) hl rfl (by kernel_rfl) (by kernel_rfl) (by kernel_rfl) (by kernel_rfl) (by kernel_rfl) rfl trivial (fun _ _ _ h => h) hM (fun w hC => r_convW hl rfl Tryz.underlying3 Tryz.underlying106) rfl ?_
          clear hl a; intro a hl
          refine d_take (i := 10) hl rfl (by kernel_rfl) (by kernel_rfl) (by kernel_rfl) (by kernel_rfl) (by kernel_rfl) rfl trivial (fun _ _ _ h => h) hM (fun w hC => r_shl hl rfl rfl (by omega)) rfl ?_
          clear hl a; intro a hl
          rw [sh64_eq] at hl
          refine d_takeL (i := 11) hl rfl (by kernel_rfl) (by kernel_rfl) (by kernel_rfl) (by kernel_rfl) (by kernel_rfl) rfl trivial (fun _ _ _ h => h) (fun w => r_or hl rfl rfl) rfl ?_
          clear hl a; intro a hl
          refine d_takeL (i := 12) hl rfl (by kernel_rfl) (by kernel_rfl) (by kernel_rfl) (by kernel_rfl) (by kernel_rfl) rfl trivial (fun _ _ _ h => h) (fun w => r_indexS hl rfl rfl slc125 (by omega) (by omega) (by first | (simp only [Int.reduceToNat]; rfl) | exact toNat_add1 _ | exact toNat_add2 _ _ | exact toNat_emod _ _ | exact Int.toNat_natCast _ | rfl)) rfl ?_
          clear hl a; intro a hl
          refine d_one (i := 13) (by kernel_rfl) rfl ?_
          try clear hM
          refine id (w_store hl hh trivial one49 rfl rfl (by repeat (first | exact find_head | apply find_tail | apply find_skip)) (by first | (simp; done) | (simp; omega) | (rw [hz.jl]; omega) | exact um0 (by omega)) (by first | rfl | assumption | (apply Row.one; assumption)) (by first | exact app_gen c4_len z.xs ⟨(rnL z.vs x.l).2, rp, rc, Eo⟩ z.jb z.i hzx hj4 | exact us0 (by omega) | (simp only [setL, List.getElem?_cons_zero, List.getElem?_cons_succ, Value.cells, List.take_zero, List.take_succ_cons, List.take_nil, List.drop_zero, List.drop_succ_cons, List.drop_nil, List.length_cons, List.length_nil, List.cons_append, List.nil_append, List.append_nil, Nat.zero_add, Nat.add_zero, Nat.reduceAdd, Nat.reduceBEq, Nat.reduceEqDiff, Nat.ble, BEq.rfl, Bool.and_true, Bool.and_self, cond_true, beq_self_eq_true]; rfl)) ?_)
          clear hh w; intro w hh
          refine d_step (fun h => absurd h (by decide)) ?_
          refine d_done (by kernel_rfl) ?_
          try clear hM
          have hl2 := hl.add (t := 3) (hl.add (t := 8) (hl.add (t := 71) (hl.add (t := 72) (hl.add (t := 73) (hl.add (t := 80) (hl.add (t := 81) (hl.add (t := 82) (hl.nil) rfl) rfl) rfl) rfl) rfl) rfl) rfl) rfl; clear hl; have hl := hl2; clear hl2
          refine blk_normal ?_
          refine then_normal ?_
          refine c_region ?_
          first | refine wl (wl_val hl rfl trivial (r_add hl rfl rfl (by simp only [Fits]; omega)) ?_) | refine wl (wl_val hl rfl trivial (r_addW hl rfl rfl) ?_)
          clear hl a; intro a hl
          refine wl (wl_val hl rfl trivial (r_move hl rfl) ?_)
          clear hl a; intro a hl
          refine w_nil ?_
          have hl2 := hl.add (t := 3) (hl.add (t := 8) (hl.add (t := 71) (hl.add (t := 72) (hl.add (t := 73) (hl.add (t := 80) (hl.add (t := 81) (hl.add (t := 82) (hl.nil) rfl) rfl) rfl) rfl) rfl) rfl) rfl) rfl; clear hl; have hl := hl2; clear hl2
          refine then_normal ?_
          refine ⟨⟨u.i + 1, u.oc.set v (bitsOf .or .u64 (fnI u.oc v) (sh64 y.i))⟩, (by simp only; omega), ⟨by simp only; omega, by rw [ocTs_snoc htt, ← huo, oc1_y hc3 hvv]⟩, hl.addE (t := 82) (hl.addE (t := 3) (hl.addE (t := 8) (hl.addE (t := 71) (hl.addE (t := 72) (hl.addE (t := 73) (hl.addE (t := 80) (hl.addE (t := 81) (hl.nil) rfl (by first | rfl | exact congrArg (Value.int .i64) (show (u.i : Int) + 1 = ((u.i + 1 : Nat) : Int) by omega) | (rw [hq3]))) rfl (by first | rfl | exact congrArg (Value.int .i64) (show (u.i : Int) + 1 = ((u.i + 1 : Nat) : Int) by omega) | (rw [hq3]))) rfl (by first | rfl | exact congrArg (Value.int .i64) (show (u.i : Int) + 1 = ((u.i + 1 : Nat) : Int) by omega) | (rw [hq3]))) rfl (by first | rfl | exact congrArg (Value.int .i64) (show (u.i : Int) + 1 = ((u.i + 1 : Nat) : Int) by omega) | (rw [hq3]))) rfl (by first | rfl | exact congrArg (Value.int .i64) (show (u.i : Int) + 1 = ((u.i + 1 : Nat) : Int) by omega) | (rw [hq3]))) rfl (by first | rfl | exact congrArg (Value.int .i64) (show (u.i : Int) + 1 = ((u.i + 1 : Nat) : Int) by omega) | (rw [hq3]))) rfl (by first | rfl | exact congrArg (Value.int .i64) (show (u.i : Int) + 1 = ((u.i + 1 : Nat) : Int) by omega) | (rw [hq3]))) rfl (by first | rfl | exact congrArg (Value.int .i64) (show (u.i : Int) + 1 = ((u.i + 1 : Nat) : Int) by omega) | (rw [hq3])), hh.keep (by repeat (first | exact keeps_nil | apply keeps_cons (by repeat (first | exact find_head | apply find_tail | apply find_skip)) (by first  | rfl) | exact keeps_self | exact keeps_left | apply keeps_app | apply keeps_mv | apply keeps_skip))⟩
        · intro hc3
          try simp only [decide_eq_true_eq, decide_eq_false_iff_not, Bool.not_eq_true', Bool.not_eq_false', Bool.not_eq_true, Bool.not_eq_false, Bool.and_eq_true, Bool.or_eq_true, Bool.and_eq_false_iff, Bool.or_eq_false_iff, Bool.not_not, ne_eq, Int.not_lt, Int.not_le, Decidable.not_not, beq_iff_eq, bne_iff_ne] at hc3
          refine wp_skip ?_
          refine blk_normal ?_
          refine then_normal ?_
          refine c_region ?_
          first | refine wl (wl_val hl rfl trivial (r_add hl rfl rfl (by simp only [Fits]; omega)) ?_) | refine wl (wl_val hl rfl trivial (r_addW hl rfl rfl) ?_)
          clear hl a; intro a hl
          refine wl (wl_val hl rfl trivial (r_move hl rfl) ?_)
          clear hl a; intro a hl
          refine w_nil ?_
          have hl2 := hl.add (t := 3) (hl.add (t := 8) (hl.add (t := 71) (hl.add (t := 72) (hl.add (t := 73) (hl.add (t := 80) (hl.add (t := 81) (hl.add (t := 82) (hl.nil) rfl) rfl) rfl) rfl) rfl) rfl) rfl) rfl; clear hl; have hl := hl2; clear hl2
          refine then_normal ?_
          refine ⟨⟨u.i + 1, u.oc⟩, (by simp only; omega), ⟨by simp only; omega, by rw [ocTs_snoc htt, ← huo, oc1_n hc3]⟩, hl.addE (t := 82) (hl.addE (t := 3) (hl.addE (t := 8) (hl.addE (t := 71) (hl.addE (t := 72) (hl.addE (t := 73) (hl.addE (t := 80) (hl.addE (t := 81) (hl.nil) rfl (by first | rfl | exact congrArg (Value.int .i64) (show (u.i : Int) + 1 = ((u.i + 1 : Nat) : Int) by omega) | (rw [hq3]))) rfl (by first | rfl | exact congrArg (Value.int .i64) (show (u.i : Int) + 1 = ((u.i + 1 : Nat) : Int) by omega) | (rw [hq3]))) rfl (by first | rfl | exact congrArg (Value.int .i64) (show (u.i : Int) + 1 = ((u.i + 1 : Nat) : Int) by omega) | (rw [hq3]))) rfl (by first | rfl | exact congrArg (Value.int .i64) (show (u.i : Int) + 1 = ((u.i + 1 : Nat) : Int) by omega) | (rw [hq3]))) rfl (by first | rfl | exact congrArg (Value.int .i64) (show (u.i : Int) + 1 = ((u.i + 1 : Nat) : Int) by omega) | (rw [hq3]))) rfl (by first | rfl | exact congrArg (Value.int .i64) (show (u.i : Int) + 1 = ((u.i + 1 : Nat) : Int) by omega) | (rw [hq3]))) rfl (by first | rfl | exact congrArg (Value.int .i64) (show (u.i : Int) + 1 = ((u.i + 1 : Nat) : Int) by omega) | (rw [hq3]))) rfl (by first | rfl | exact congrArg (Value.int .i64) (show (u.i : Int) + 1 = ((u.i + 1 : Nat) : Int) by omega) | (rw [hq3])), hh.keep (by repeat (first | exact keeps_nil | apply keeps_cons (by repeat (first | exact find_head | apply find_tail | apply find_skip)) (by first  | rfl) | exact keeps_self | exact keeps_left | apply keeps_app | apply keeps_mv | apply keeps_skip))⟩
      · intro hc2
        try simp only [decide_eq_true_eq, decide_eq_false_iff_not, Bool.not_eq_true', Bool.not_eq_false', Bool.not_eq_true, Bool.not_eq_false, Bool.and_eq_true, Bool.or_eq_true, Bool.and_eq_false_iff, Bool.or_eq_false_iff, Bool.not_not, ne_eq, Int.not_lt, Int.not_le, Decidable.not_not, beq_iff_eq, bne_iff_ne] at hc2
        have hue : u.i = x.l.a.length := by omega
        refine wp_exit ?_
        refine then_exit ?_
        refine then_exit ?_
        refine blk_exit ?_
        refine blk_normal ?_
        refine then_normal ?_
        refine c_region ?_
        first | refine wl (wl_val hl rfl trivial (r_add hl rfl rfl (by simp only [Fits]; omega)) ?_) | refine wl (wl_val hl rfl trivial (r_addW hl rfl rfl) ?_)
        clear hl a; intro a hl
        refine wl (wl_val hl rfl trivial (r_move hl rfl) ?_)
        clear hl a; intro a hl
        refine w_nil ?_
        have hl2 := hl.add (t := 3) (hl.add (t := 71) (hl.add (t := 72) (hl.add (t := 73) (hl.nil) rfl) rfl) rfl) rfl; clear hl; have hl := hl2; clear hl2
        refine then_normal ?_
        refine ⟨⟨y.i + 1, u.oc⟩, (by simp only; omega), ⟨by simp only; omega, by rw [ocB_succ (lt_at hxx), ← hyo]; rw [hue, List.take_length] at huo; exact huo⟩, hl.addE (t := 73) (hl.addE (t := 3) (hl.addE (t := 71) (hl.addE (t := 72) (hl.nil) rfl (by first | rfl | exact congrArg (Value.int .i64) (show (y.i : Int) + 1 = ((y.i + 1 : Nat) : Int) by omega))) rfl (by first | rfl | exact congrArg (Value.int .i64) (show (y.i : Int) + 1 = ((y.i + 1 : Nat) : Int) by omega))) rfl (by first | rfl | exact congrArg (Value.int .i64) (show (y.i : Int) + 1 = ((y.i + 1 : Nat) : Int) by omega))) rfl (by first | rfl | exact congrArg (Value.int .i64) (show (y.i : Int) + 1 = ((y.i + 1 : Nat) : Int) by omega)), hh.keep (by repeat (first | exact keeps_nil | apply keeps_cons (by repeat (first | exact find_head | apply find_tail | apply find_skip)) (by first  | rfl) | exact keeps_self | exact keeps_left | apply keeps_app | apply keeps_mv | apply keeps_skip))⟩
    · intro hc1
      try simp only [decide_eq_true_eq, decide_eq_false_iff_not, Bool.not_eq_true', Bool.not_eq_false', Bool.not_eq_true, Bool.not_eq_false, Bool.and_eq_true, Bool.or_eq_true, Bool.and_eq_false_iff, Bool.or_eq_false_iff, Bool.not_not, ne_eq, Int.not_lt, Int.not_le, Decidable.not_not, beq_iff_eq, bne_iff_ne] at hc1
      have hye : y.i = r.ls.length := by omega
      refine wp_exit ?_
      refine then_exit ?_
      refine then_exit ?_
      refine blk_exit ?_
      refine then_normal ?_
      refine c_seq ?_
      refine c_region ?_
      refine wl (wl_val hl rfl trivial (r_move hl rfl) ?_)
      clear hl a; intro a hl
      refine wl (wl_val hl rfl trivial (r_assign hl rfl) ?_)
      clear hl a; intro a hl
      refine w_nil ?_
      have hl2 := hl.add (t := 2) (hl.nil) rfl; clear hl; have hl := hl2; clear hl2
      refine then_normal ?_
      refine wp_ret ?_
      refine f_ret1 (F' := (k17, C [.string r.p, .slice hp r.a.length hc, .slice (some ⟨k15, 0, none⟩) r.ls.length r.ls.length, .int .i64 (z.vs.length : Int), .slice (some ⟨k65, 0, none⟩) z.vs.length z.vs.length] 127) :: (k15, C (fl LV.c4 z.xs) 48) :: (k65, C (fl uI y.oc) 49) :: (hE ++ List.flatMap LV.E z.xs)) hl hh rfl rfl (by repeat (first | exact keeps_nil | apply keeps_cons (by repeat (first | exact find_head | apply find_tail | apply find_skip)) (by first  | rfl) | exact keeps_self | exact keeps_left | apply keeps_app | apply keeps_mv | apply keeps_skip)) ?_
      refine ⟨⟨k17, r.p, .slice hp r.a.length hc, z.xs, k15, z.vs.length, y.oc, k65⟩, hp, hc, hE, ⟨by rw [show z.xs.length = r.ls.length by omega]; simp, by simp, by simp, hz.ok, fun x q hx hq => by simp only [List.mem_cons, List.mem_append]; exact .inr (.inr (.inr (.inr (xs_E hx hq)))), by rw [hyo, ocB_len]; simp, hz.vb, by show z.xs.length ≤ 64; omega, hvl6⟩, rfl, rfl, rfl, hRh, fun q hq => by simp only [List.mem_cons, List.mem_append]; exact .inr (.inr (.inr (.inl hq))), ?_, ?_, by show z.xs.length = _; omega, ?_⟩
      · show z.xs.map LV.l = _; rw [hzs]
      · show z.vs.length = _; rw [hzs]
      · show y.oc = ocB (z.xs.map LV.l) z.xs.length (List.replicate z.vs.length 0); rw [show z.xs.length = y.i by omega]; exact hyo
end Go.Proofs.Qxb6500915aGreatDoor

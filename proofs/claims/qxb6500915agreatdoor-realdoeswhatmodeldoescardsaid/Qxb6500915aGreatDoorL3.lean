import Derived.Test.Qxb6500915aGreatDoorZ8
import Derived.Test.Qxb6500915aGreatDoorK8
namespace Go.Proofs.Qxb6500915aGreatDoor
open Go.Eng
set_option linter.unusedVariables false
set_option linter.unusedSimpArgs false
theorem cal4 : callable Tryz.prog 4 = true := by kernel_rfl
theorem agg29 : aggOk Tryz.prog 29 3 = true := by kernel_rfl
theorem cal5 : callable Tryz.prog 5 = true := by kernel_rfl
theorem cal6 : callable Tryz.prog 6 = true := by kernel_rfl
theorem cal7 : callable Tryz.prog 7 = true := by kernel_rfl
theorem cal8 : callable Tryz.prog 8 = true := by kernel_rfl
theorem shp36 : shapeT Tryz.prog 8 36 = some [.int .u8, .int .i64, .int .i64, .int .i64] := by kernel_rfl
theorem eqf36 : eqOk Tryz.prog 8 36 = true := by kernel_rfl
theorem cal9 : callable Tryz.prog 9 = true := by kernel_rfl
theorem cal10 : callable Tryz.prog 10 = true := by kernel_rfl
/-! ## both sides -/
def NrR (rus : List Ru) (n : NmV) (f : Ft) : Prop := (NoF rus f ∧ n.l = [] ∧ n.q = [] ∧ n.s = 0) ∨ (f = ⟨0, 0, 0, 0⟩ ∧ n.l.length ≤ 1000000 ∧ ∃ ps' q0 qs, NoO rus ps' n.l q0 qs ∧ n.q = drL qs ∧ n.s = stMx n.l)
structure Agr (n : NmV) (f : Ft) (n2 : NmV) (f2 : Ft) : Prop where
  f : f2 = f
  l : n2.l = n.l
  s : n2.s = n.s
  q : n2.q.map RV.ru = n.q.map RV.ru
theorem fin9 {rus : List Ru} {n : NmV} {f : Ft} (h5 : ∀ r, r ∈ rus → r.b.length ≤ 5) (h : NrR rus n f) : ∃ L : ByteArray → Nat, ((∃ ps bad, ckP [] 0 rus = (none, ps) ∧ BadN rus bad ∧ negP bad 0 rus = none ∧ usP 0 rus = none) → NSol rus L ∧ ∀ n, L n ≤ 1000000) ∧ ∀ n2 f2, NrM rus L n2 f2 → Agr n f n2 f2 := by
  rcases h with ⟨h1, h2, h3, h4⟩ | ⟨rfl, hll, ps', q0, qs, h1, h2, h3⟩
  · refine ⟨fun _ => 0, fun ⟨ps, bad, a1, a2, a3, a4⟩ => ?_, fun n2 f2 hm => ?_⟩
    · exfalso
      rcases h1 with ⟨ps2, h⟩ | ⟨ps2, h, h1⟩
      · rw [h] at a1; cases a1
      · rcases h1 with ⟨i, q1, q2, e1, rfl⟩ | ⟨e1, bad2, hB, e2⟩
        · rw [a4] at e1; cases e1
        · have e5 := bad_eq (tabl_of h).t hB a2
          rcases e2 with ⟨i', j', e6, rfl⟩ | ⟨e6, i, e7, _⟩
          · rw [e5, a3] at e6; cases e6
          · rw [noC_small h5] at e7; cases e7
    · rcases hm with ⟨m1, m2, m3, m4⟩ | ⟨_, ns, m, ar, m1, _⟩
      · exact ⟨(nof_m h5 h1 m1).symm, by rw [m2, h2], by rw [m4, h4], by rw [m3, h3]⟩
      · exact (nof_nom h5 h1 m1).elim
  · obtain ⟨ps, L, hk, hV, hL, hF⟩ := noo_sol h1 hll
    refine ⟨lvN ps L, fun _ => ⟨hF.so, hF.lb⟩, fun n2 f2 hm => ?_⟩
    rcases hm with ⟨m1, _⟩ | ⟨rfl, ns, m, ar, m1, m2, m3⟩
    · exact (noo_m h1 m1).elim
    · obtain ⟨e1, e2⟩ := noo_nom h1 hk hV hL hF m1
      have e3 : n2.l = n.l := by rw [m2, e1]
      exact ⟨rfl, e3, by rw [m3, h3, e3], by rw [h2, e2]⟩
theorem nrr_bd {rs : List RV} {n : NmV} {f : Ft} (hok : ∀ r, r ∈ rs → r.ok) (hl : rs.length ≤ 900000) (h : NrR (rs.map RV.ru) n f) : FtB f := by
  have hb := ru_bd hok
  rcases h with ⟨h1, _⟩ | ⟨rfl, _⟩
  · rcases h1 with ⟨ps, hk⟩ | ⟨ps, hk, h1⟩
    · exact ckP_bd _ _ _ _ _ hb (by rw [List.length_map]; omega) hk
    · rcases h1 with ⟨i, q1, q2, e1, rfl⟩ | ⟨e1, bad2, hB, ⟨i, j, e2, rfl⟩ | ⟨e2, i, e3, rfl⟩⟩
      · have := usP_bd9 hb e1
        rw [List.length_map] at this
        exact ⟨by simp only; omega, by simp only; omega, by simp only; omega, by simp only; omega⟩
      · have hij := negP_bd _ _ _ _ (tabl_of hk).t.b e2
        rw [List.length_map] at hij
        exact ⟨by simp only; omega, by simp only; omega, by simp only; omega, by simp only; omega⟩
      · have hi : i < (rs.map RV.ru).length := by
          have : ∀ (l : List Ru) (k : Nat), noC k l = some i → i < k + l.length := by
            intro l
            induction l with
            | nil => intro k h; cases h
            | cons r l ih =>
              intro k h
              unfold noC at h
              cases hc : canR r with
              | none => rw [hc] at h; injection h with h; subst h; simp only [List.length_cons]; omega
              | some q => rw [hc] at h; have := ih _ h; simp only [List.length_cons]; omega
          have := this _ _ e3; omega
        rw [List.length_map] at hi
        exact ⟨by simp only; omega, by simp only; omega, by simp only; omega, by simp only; omega⟩
  · exact ⟨by simp only; omega, by simp only; omega, by simp only; omega, by simp only; omega⟩


theorem norm9z (rs : List RV) (rp : Option Addr) (rc : Nat) (RE : List (Nat × Obj)) (hp : Prg rs rp rc RE) (hr9 : rs.length ≤ 15000) (hvs : ∀ r, r ∈ rs → (vars r.ru).length ≤ 1000) : SpK Tryz.prog 7 #[.agg ⟨[.slice rp rs.length rc]⟩] (PrW rs RE) [] (fun v F' => ∃ n f G, n.ok ∧ NrR (rs.map RV.ru) n f ∧ v = .tuple #[.agg ⟨[.slice n.lp n.l.length n.lc, .slice n.rp n.q.length n.rc, .int .i64 (n.s : Int)]⟩, .agg ⟨ftc f⟩] ∧ NmG n G ∧ F' = n.lE ++ (n.rE ++ G)) :=
  spk_mono (norm_spec rs rp rc RE hp hr9 hvs) fun v F h => by
    rcases h with ⟨f, h1, h2, h3⟩ | ⟨ps', l, q0, qs, lp, lc, lE, rb, rc2, rE, hno, hbd, rfl, hlr, hrr, rfl⟩
    · exact ⟨⟨[], none, 0, [], [], none, 0, [], 0⟩, f, [], nmv0_ok, .inl ⟨h1, rfl, rfl, rfl⟩, h2, fun x hx => (by cases hx), h3⟩
    · exact ⟨⟨l, lp, lc, lE, drL qs, some ⟨rb, 0, none⟩, rc2, rE, stMx l⟩, ⟨0, 0, 0, 0⟩, q0.flatMap RV.E, nmv_ok hp.ok ⟨by omega, by omega⟩ hno hlr hrr, .inr ⟨rfl, by simp only; omega, ps', q0, qs, hno, rfl, rfl⟩, rfl, fun x hx z hz => List.mem_flatMap.2 ⟨x, hno.qp.mem_iff.1 (drL_mem hx), hz⟩, rfl⟩

attribute [local irreducible] RV.E

set_option maxHeartbeats 16000000 in
theorem law3 (p : Option Addr) (c : Nat) (ops : List OpV) (Z0 : List (Nat × Obj)) (hS : VwG 9 (.slice p ops.length c) ops.length (fl OpV.c9 ops) Z0) (hO : ∀ x, x ∈ ops → OpW x) (hol : ops.length ≤ 4000000000000000000) (HT : TypeId) (hf : Nat × Nat) : SpK Tryz.prog 3 #[.slice p ops.length c] (fun w => Scr p c ops Z0 w ∧ w.heap[0]? = some (.cells ⟨[.int .i64 8, .int .i64 5, .int .i64 5]⟩ HT hf)) [] (fun v F' => v = .bool true ∧ F' = []) := by
  refine f_enter (args := [.slice p ops.length c]) Tryz.func3 rfl Tryz.ntmps3 rfl ?_
  intro w0 w a hpre hl hh
  simp only [slotsFrom, Nat.reduceAdd] at hl
  refine c_seq ?_
  refine c_region ?_
  refine wl (wl_val hl rfl trivial (r_assign hl rfl) ?_)
  clear hl a; intro a hl
  refine w_nil ?_
  have hl2 := hl.add (t := 0) (hl.nil) rfl; clear hl; have hl := hl2; clear hl2
  refine then_normal ?_
  refine c_seq ?_
  refine c_seq ?_
  refine c_region ?_
  refine wl (wl_val hl rfl trivial (r_move hl rfl) ?_)
  clear hl a; intro a hl
  refine wl (w_call hl hh rfl trivial rfl cal4 rfl (small_spec p c ops Z0 hS hO hol) (by repeat (first | exact keeps_nil | apply keeps_cons (by repeat (first | exact find_head | apply find_tail | apply find_skip)) (by first  | rfl) | exact keeps_self | exact keeps_left | apply keeps_app | apply keeps_mv | apply keeps_skip)) ⟨mem_keep hh hpre.1.z, fun x hx => mem_keep hh (hpre.1.t x hx), fun x hx => mem_keep hh (hpre.1.l x hx)⟩ ?_)
  clear hl hh a w; intro vc Fc a w hR hl hh
  obtain ⟨b, rfl, hb, rfl⟩ := hR
  try simp only [List.cons_append, List.nil_append, List.append_assoc, List.append_nil] at hh
  refine wl (wl_val hl rfl trivial (r_not hl rfl) ?_)
  clear hl a; intro a hl
  refine w_nil ?_
  have hl2 := hl.add (t := 0) (hl.add (t := 11) (hl.nil) rfl) rfl; clear hl; have hl := hl2; clear hl2
  refine then_normal ?_
  refine c_cond hl rfl ?_ ?_
  · intro hc0
    try simp only [decide_eq_true_eq, decide_eq_false_iff_not, Bool.not_eq_true', Bool.not_eq_false', Bool.not_eq_true, Bool.not_eq_false, Bool.and_eq_true, Bool.or_eq_true, Bool.and_eq_false_iff, Bool.or_eq_false_iff, Bool.not_not, ne_eq, Int.not_lt, Int.not_le, Decidable.not_not, beq_iff_eq, bne_iff_ne] at hc0
    refine c_seq ?_
    refine c_region ?_
    refine wl (wl_val hl rfl trivial (r_assign hl rfl) ?_)
    clear hl a; intro a hl
    refine w_nil ?_
    have hl2 := hl.add (t := 2) (hl.nil) rfl; clear hl; have hl := hl2; clear hl2
    refine then_normal ?_
    refine wp_ret ?_
    refine then_ret ?_
    refine f_ret1 (F' := []) hl hh rfl rfl (by repeat (first | exact keeps_nil | apply keeps_cons (by repeat (first | exact find_head | apply find_tail | apply find_skip)) (by first  | rfl) | exact keeps_self | exact keeps_left | apply keeps_app | apply keeps_mv | apply keeps_skip)) ?_
    first | exact ⟨rfl, rfl⟩ | exact ⟨congrArg Value.bool (decide_eq_true hte.symm), rfl⟩
  · intro hc0
    try simp only [decide_eq_true_eq, decide_eq_false_iff_not, Bool.not_eq_true', Bool.not_eq_false', Bool.not_eq_true, Bool.not_eq_false, Bool.and_eq_true, Bool.or_eq_true, Bool.and_eq_false_iff, Bool.or_eq_false_iff, Bool.not_not, ne_eq, Int.not_lt, Int.not_le, Decidable.not_not, beq_iff_eq, bne_iff_ne] at hc0
    have hSm := hb (by first | exact hc0 | simpa using hc0)
    refine wp_skip ?_
    refine then_normal ?_
    refine c_seq ?_
    refine c_region ?_
    refine wl (wl_val hl rfl trivial (r_move hl rfl) ?_)
    clear hl a; intro a hl
    first | refine wl (w_loadA hl hh rfl trivial agg29 rfl (by repeat (first | exact find_head | apply find_tail | apply find_skip)) (by first | (simp only [List.getElem?_cons_zero, List.getElem?_cons_succ, Value.cells, List.take_zero, List.take_succ_cons, List.take_nil, List.drop_zero, List.drop_succ_cons, List.drop_nil, List.length_cons, List.length_nil, List.cons_append, List.nil_append, List.append_nil, Nat.zero_add, Nat.add_zero, Nat.reduceAdd, Nat.reduceBEq, Nat.reduceEqDiff, Nat.ble, BEq.rfl, Bool.and_true, Bool.and_self, cond_true, beq_self_eq_true]; rfl)) (by first | rfl | (simp; done)) ?_) | refine wl (w_loadRA hl hh rfl trivial agg29 rfl hpre.2 (by simp) rfl rfl ?_)
    clear hl a; intro a hl
    refine wl (w_call hl hh rfl trivial rfl cal5 rfl (build_spec 8 5 5 (by omega) p c ops Z0 hS (fun x hx => (hO x hx).ok (hSm.t x hx) (hSm.l x hx)) hSm.len) (by repeat (first | exact keeps_nil | apply keeps_cons (by repeat (first | exact find_head | apply find_tail | apply find_skip)) (by first  | rfl) | exact keeps_self | exact keeps_left | apply keeps_app | apply keeps_mv | apply keeps_skip)) ⟨mem_keep hh hpre.1.z, fun x hx => mem_keep hh (hpre.1.t x hx), fun x hx => mem_keep hh (hpre.1.l x hx)⟩ ?_)
    clear hl hh a w; intro vc Fc a w hR hl hh
    obtain ⟨rs, rp, rc, RE, hG, hRow, rfl, rfl⟩ := hR
    try simp only [List.cons_append, List.nil_append, List.append_assoc, List.append_nil] at hh
    have hrl := hG.len
    have hp : Prg rs rp rc RE := ⟨hRow, hG.ok, by omega⟩
    refine wl (w_alloc hl hh rfl trivial zero26 rfl ?_)
    clear hl hh a w; intro k3 a w hl hh
    refine wl (w_storeA hl hh trivial agg26 rfl rfl (by repeat (first | exact find_head | apply find_tail | apply find_skip)) (by first | rfl | (simp; done)) (by first | (simp; done) | (simp; omega)) (by first | rfl | (simp; done) | rfl) (by first | (simp only [setL, List.getElem?_cons_zero, List.getElem?_cons_succ, Value.cells, List.take_zero, List.take_succ_cons, List.take_nil, List.drop_zero, List.drop_succ_cons, List.drop_nil, List.length_cons, List.length_nil, List.cons_append, List.nil_append, List.append_nil, Nat.zero_add, Nat.add_zero, Nat.reduceAdd, Nat.reduceBEq, Nat.reduceEqDiff, Nat.ble, BEq.rfl, Bool.and_true, Bool.and_self, cond_true, beq_self_eq_true]; rfl)) ?_)
    clear hh w; intro w hh
    refine w_nil ?_
    have hl2 := hl.add (t := 3) (hl.nil) rfl; clear hl; have hl := hl2; clear hl2
    refine then_normal ?_
    refine c_seq ?_
    refine c_region ?_
    first | refine wl (w_loadA hl hh rfl trivial agg26 rfl (by repeat (first | exact find_head | apply find_tail | apply find_skip)) (by first | (simp only [List.getElem?_cons_zero, List.getElem?_cons_succ, Value.cells, List.take_zero, List.take_succ_cons, List.take_nil, List.drop_zero, List.drop_succ_cons, List.drop_nil, List.length_cons, List.length_nil, List.cons_append, List.nil_append, List.append_nil, Nat.zero_add, Nat.add_zero, Nat.reduceAdd, Nat.reduceBEq, Nat.reduceEqDiff, Nat.ble, BEq.rfl, Bool.and_true, Bool.and_self, cond_true, beq_self_eq_true]; rfl)) (by first | rfl | (simp; done)) ?_) | refine wl (w_loadRA hl hh rfl trivial agg26 rfl hpre.2 (by simp) rfl rfl ?_)
    clear hl a; intro a hl
    refine wl (w_call hl hh rfl trivial rfl cal6 rfl (clnP_spec rs rp rc RE hp) (by repeat (first | exact keeps_nil | apply keeps_cons (by repeat (first | exact find_head | apply find_tail | apply find_skip)) (by first  | rfl) | exact keeps_self | exact keeps_left | apply keeps_app | apply keeps_mv | apply keeps_skip)) (prw_of (memK hh (by repeat (first | exact keeps_nil | apply keeps_cons (by repeat (first | exact find_head | apply find_tail | apply find_skip)) (by first  | rfl) | exact keeps_self | exact keeps_left | apply keeps_app | apply keeps_mv | apply keeps_skip)))) ?_)
    clear hl hh a w; intro vc Fc a w hR hl hh
    obtain ⟨rt, tp, tc, TE, hto, hte, htR, rfl, rfl⟩ := hR
    try simp only [List.cons_append, List.nil_append, List.append_assoc, List.append_nil] at hh
    have htl : rt.length = rs.length := by have h9 := congrArg List.length hte; rw [List.length_map, List.length_map] at h9; exact h9
    have ht : Prg rt tp tc TE := ⟨htR, hto, by omega⟩
    have h5r : ∀ r, r ∈ rs → r.ls.length ≤ 5 := fun r hr => by have := hG.bd r hr; omega
    have h5u : ∀ r, r ∈ (rs.map RV.ru) → r.b.length ≤ 5 := fun r hr => by
      obtain ⟨x, hx, rfl⟩ := List.mem_map.1 hr
      show (x.ls.map LV.l).length ≤ 5
      rw [List.length_map]; exact h5r x hx
    have h5t : ∀ r, r ∈ rt → r.ls.length ≤ 5 := fun r hr => by
      have h9 := h5u r.ru (by rw [← hte]; exact List.mem_map.2 ⟨r, hr, rfl⟩)
      have h8 : r.ru.b.length = r.ls.length := List.length_map ..
      omega
    refine wl (w_alloc hl hh rfl trivial zero26 rfl ?_)
    clear hl hh a w; intro k4 a w hl hh
    refine wl (w_storeA hl hh trivial agg26 rfl rfl (by repeat (first | exact find_head | apply find_tail | apply find_skip)) (by first | rfl | (simp; done)) (by first | (simp; done) | (simp; omega)) (by first | rfl | (simp; done) | rfl) (by first | (simp only [setL, List.getElem?_cons_zero, List.getElem?_cons_succ, Value.cells, List.take_zero, List.take_succ_cons, List.take_nil, List.drop_zero, List.drop_succ_cons, List.drop_nil, List.length_cons, List.length_nil, List.cons_append, List.nil_append, List.append_nil, Nat.zero_add, Nat.add_zero, Nat.reduceAdd, Nat.reduceBEq, Nat.reduceEqDiff, Nat.ble, BEq.rfl, Bool.and_true, Bool.and_self, cond_true, beq_self_eq_true]; rfl)) ?_)
    clear hh w; intro w hh
    refine w_nil ?_
    have hl2 := hl.add (t := 3) (hl.add (t := 4) (hl.nil) rfl) rfl; clear hl; have hl := hl2; clear hl2
    refine then_normal ?_
    refine c_seq ?_
    refine c_region ?_
    first | refine wl (w_loadA hl hh rfl trivial agg26 rfl (by repeat (first | exact find_head | apply find_tail | apply find_skip)) (by first | (simp only [List.getElem?_cons_zero, List.getElem?_cons_succ, Value.cells, List.take_zero, List.take_succ_cons, List.take_nil, List.drop_zero, List.drop_succ_cons, List.drop_nil, List.length_cons, List.length_nil, List.cons_append, List.nil_append, List.append_nil, Nat.zero_add, Nat.add_zero, Nat.reduceAdd, Nat.reduceBEq, Nat.reduceEqDiff, Nat.ble, BEq.rfl, Bool.and_true, Bool.and_self, cond_true, beq_self_eq_true]; rfl)) (by first | rfl | (simp; done)) ?_) | refine wl (w_loadRA hl hh rfl trivial agg26 rfl hpre.2 (by simp) rfl rfl ?_)
    clear hl a; intro a hl
    refine wl (w_call hl hh rfl trivial rfl cal7 rfl (norm9z rs rp rc RE hp (by omega) (fun r hr => by have := hG.vs r hr; omega)) (by repeat (first | exact keeps_nil | apply keeps_cons (by repeat (first | exact find_head | apply find_tail | apply find_skip)) (by first  | rfl) | exact keeps_self | exact keeps_left | apply keeps_app | apply keeps_mv | apply keeps_skip)) (prw_of (memK hh (by repeat (first | exact keeps_nil | apply keeps_cons (by repeat (first | exact find_head | apply find_tail | apply find_skip)) (by first  | rfl) | exact keeps_self | exact keeps_left | apply keeps_app | apply keeps_mv | apply keeps_skip)))) ?_)
    clear hl hh a w; intro vc Fc a w hR hl hh
    rcases hR with ⟨n, f, G, hN, hnr, rfl, hG9, rfl⟩
    ·
      try simp only [List.cons_append, List.nil_append, List.append_nil] at hh
      obtain ⟨L, hL, hfin⟩ := fin9 h5u hnr
      have hfb := nrr_bd hG.ok (by omega) hnr
      simp only [ftc] at hl
      try simp only [List.append_assoc] at hh
      refine wl (wl_val hl rfl trivial (r_move hl rfl) ?_)
      clear hl a; intro a hl
      refine wl (wl_val hl rfl trivial (r_extract hl rfl (by simp only [List.getElem?_toArray, List.getElem?_cons_zero, List.getElem?_cons_succ]; rfl)) ?_)
      clear hl a; intro a hl
      refine wl (wl_val hl rfl trivial (r_extract hl rfl (by simp only [List.getElem?_toArray, List.getElem?_cons_zero, List.getElem?_cons_succ]; rfl)) ?_)
      clear hl a; intro a hl
      refine wl (w_alloc hl hh rfl trivial zero33 rfl ?_)
      clear hl hh a w; intro k5 a w hl hh
      refine wl (w_alloc hl hh rfl trivial zero36 rfl ?_)
      clear hl hh a w; intro k6 a w hl hh
      refine wl (w_storeA hl hh trivial agg33 rfl rfl (by repeat (first | exact find_head | apply find_tail | apply find_skip)) (by first | rfl | (simp; done)) (by first | (simp; done) | (simp; omega)) (by first | rfl | (simp; done) | rfl) (by first | (simp only [setL, List.getElem?_cons_zero, List.getElem?_cons_succ, Value.cells, List.take_zero, List.take_succ_cons, List.take_nil, List.drop_zero, List.drop_succ_cons, List.drop_nil, List.length_cons, List.length_nil, List.cons_append, List.nil_append, List.append_nil, Nat.zero_add, Nat.add_zero, Nat.reduceAdd, Nat.reduceBEq, Nat.reduceEqDiff, Nat.ble, BEq.rfl, Bool.and_true, Bool.and_self, cond_true, beq_self_eq_true]; rfl)) ?_)
      clear hh w; intro w hh
      refine wl (w_storeA hl hh trivial agg36 rfl rfl (by repeat (first | exact find_head | apply find_tail | apply find_skip)) (by first | rfl | (simp; done)) (by first | (simp; done) | (simp; omega)) (by first | rfl | (simp; done) | rfl) (by first | (simp only [setL, List.getElem?_cons_zero, List.getElem?_cons_succ, Value.cells, List.take_zero, List.take_succ_cons, List.take_nil, List.drop_zero, List.drop_succ_cons, List.drop_nil, List.length_cons, List.length_nil, List.cons_append, List.nil_append, List.append_nil, Nat.zero_add, Nat.add_zero, Nat.reduceAdd, Nat.reduceBEq, Nat.reduceEqDiff, Nat.ble, BEq.rfl, Bool.and_true, Bool.and_self, cond_true, beq_self_eq_true]; rfl)) ?_)
      clear hh w; intro w hh
      refine w_nil ?_
      have hl2 := hl.add (t := 3) (hl.add (t := 4) (hl.add (t := 5) (hl.add (t := 6) (hl.nil) rfl) rfl) rfl) rfl; clear hl; have hl := hl2; clear hl2
      refine then_normal ?_
      refine c_seq ?_
      refine c_region ?_
      first | refine wl (w_loadA hl hh rfl trivial agg26 rfl (by repeat (first | exact find_head | apply find_tail | apply find_skip)) (by first | (simp only [List.getElem?_cons_zero, List.getElem?_cons_succ, Value.cells, List.take_zero, List.take_succ_cons, List.take_nil, List.drop_zero, List.drop_succ_cons, List.drop_nil, List.length_cons, List.length_nil, List.cons_append, List.nil_append, List.append_nil, Nat.zero_add, Nat.add_zero, Nat.reduceAdd, Nat.reduceBEq, Nat.reduceEqDiff, Nat.ble, BEq.rfl, Bool.and_true, Bool.and_self, cond_true, beq_self_eq_true]; rfl)) (by first | rfl | (simp; done)) ?_) | refine wl (w_loadRA hl hh rfl trivial agg26 rfl hpre.2 (by simp) rfl rfl ?_)
      clear hl a; intro a hl
      refine wl (w_call hl hh rfl trivial rfl cal8 rfl (mnorm_spec rt tp tc TE ht (by omega) h5t L (by rw [hte]; exact hL)) (by repeat (first | exact keeps_nil | apply keeps_cons (by repeat (first | exact find_head | apply find_tail | apply find_skip)) (by first  | rfl) | exact keeps_self | exact keeps_left | apply keeps_app | apply keeps_mv | apply keeps_skip)) (prw_of (memK hh (by repeat (first | exact keeps_nil | apply keeps_cons (by repeat (first | exact find_head | apply find_tail | apply find_skip)) (by first  | rfl) | exact keeps_self | exact keeps_left | apply keeps_app | apply keeps_mv | apply keeps_skip)))) ?_)
      clear hl hh a w; intro vc Fc a w hR hl hh
      rcases hR with ⟨n2, f2, G2, hR2, hnr2, rfl, hG2, rfl⟩
      ·
        try simp only [List.cons_append, List.nil_append, List.append_nil] at hh
        rw [hte] at hnr2
        have hag := hfin n2 f2 hnr2
        obtain rfl := hag.f
        have hN2 : n2.ok := ⟨hR2.l, hR2.r, by rw [hag.l]; exact hN.b, hR2.o, by rw [hag.l]; exact hN.ll, hR2.rl, by rw [hag.s]; exact hN.s⟩
        have heq : eqLits [.int .u8 f2.c, .int .i64 f2.r, .int .i64 f2.l, .int .i64 f2.a] [.int .u8 f2.c, .int .i64 f2.r, .int .i64 f2.l, .int .i64 f2.a] = true := eq49 hfb
        simp only [ftc] at hl
        try simp only [List.append_assoc] at hh
        refine wl (wl_val hl rfl trivial (r_move hl rfl) ?_)
        clear hl a; intro a hl
        refine wl (wl_val hl rfl trivial (r_extract hl rfl (by simp only [List.getElem?_toArray, List.getElem?_cons_zero, List.getElem?_cons_succ]; rfl)) ?_)
        clear hl a; intro a hl
        refine wl (wl_val hl rfl trivial (r_extract hl rfl (by simp only [List.getElem?_toArray, List.getElem?_cons_zero, List.getElem?_cons_succ]; rfl)) ?_)
        clear hl a; intro a hl
        refine wl (w_alloc hl hh rfl trivial zero33 rfl ?_)
        clear hl hh a w; intro k7 a w hl hh
        refine wl (w_alloc hl hh rfl trivial zero36 rfl ?_)
        clear hl hh a w; intro k8 a w hl hh
        refine wl (w_storeA hl hh trivial agg33 rfl rfl (by repeat (first | exact find_head | apply find_tail | apply find_skip)) (by first | rfl | (simp; done)) (by first | (simp; done) | (simp; omega)) (by first | rfl | (simp; done) | rfl) (by first | (simp only [setL, List.getElem?_cons_zero, List.getElem?_cons_succ, Value.cells, List.take_zero, List.take_succ_cons, List.take_nil, List.drop_zero, List.drop_succ_cons, List.drop_nil, List.length_cons, List.length_nil, List.cons_append, List.nil_append, List.append_nil, Nat.zero_add, Nat.add_zero, Nat.reduceAdd, Nat.reduceBEq, Nat.reduceEqDiff, Nat.ble, BEq.rfl, Bool.and_true, Bool.and_self, cond_true, beq_self_eq_true]; rfl)) ?_)
        clear hh w; intro w hh
        refine wl (w_storeA hl hh trivial agg36 rfl rfl (by repeat (first | exact find_head | apply find_tail | apply find_skip)) (by first | rfl | (simp; done)) (by first | (simp; done) | (simp; omega)) (by first | rfl | (simp; done) | rfl) (by first | (simp only [setL, List.getElem?_cons_zero, List.getElem?_cons_succ, Value.cells, List.take_zero, List.take_succ_cons, List.take_nil, List.drop_zero, List.drop_succ_cons, List.drop_nil, List.length_cons, List.length_nil, List.cons_append, List.nil_append, List.append_nil, Nat.zero_add, Nat.add_zero, Nat.reduceAdd, Nat.reduceBEq, Nat.reduceEqDiff, Nat.ble, BEq.rfl, Bool.and_true, Bool.and_self, cond_true, beq_self_eq_true]; rfl)) ?_)
        clear hh w; intro w hh
        refine w_nil ?_
        have hl2 := hl.add (t := 3) (hl.add (t := 4) (hl.add (t := 5) (hl.add (t := 6) (hl.add (t := 7) (hl.add (t := 8) (hl.nil) rfl) rfl) rfl) rfl) rfl) rfl; clear hl; have hl := hl2; clear hl2
        refine then_normal ?_
        refine c_seq ?_
        refine c_region ?_
        first | refine wl (w_loadA hl hh rfl trivial agg36 rfl (by repeat (first | exact find_head | apply find_tail | apply find_skip)) (by first | (simp only [List.getElem?_cons_zero, List.getElem?_cons_succ, Value.cells, List.take_zero, List.take_succ_cons, List.take_nil, List.drop_zero, List.drop_succ_cons, List.drop_nil, List.length_cons, List.length_nil, List.cons_append, List.nil_append, List.append_nil, Nat.zero_add, Nat.add_zero, Nat.reduceAdd, Nat.reduceBEq, Nat.reduceEqDiff, Nat.ble, BEq.rfl, Bool.and_true, Bool.and_self, cond_true, beq_self_eq_true]; rfl)) (by first | rfl | (simp; done)) ?_) | refine wl (w_loadRA hl hh rfl trivial agg36 rfl hpre.2 (by simp) rfl rfl ?_)
        clear hl a; intro a hl
        first | refine wl (w_loadA hl hh rfl trivial agg36 rfl (by repeat (first | exact find_head | apply find_tail | apply find_skip)) (by first | (simp only [List.getElem?_cons_zero, List.getElem?_cons_succ, Value.cells, List.take_zero, List.take_succ_cons, List.take_nil, List.drop_zero, List.drop_succ_cons, List.drop_nil, List.length_cons, List.length_nil, List.cons_append, List.nil_append, List.append_nil, Nat.zero_add, Nat.add_zero, Nat.reduceAdd, Nat.reduceBEq, Nat.reduceEqDiff, Nat.ble, BEq.rfl, Bool.and_true, Bool.and_self, cond_true, beq_self_eq_true]; rfl)) (by first | rfl | (simp; done)) ?_) | refine wl (w_loadRA hl hh rfl trivial agg36 rfl hpre.2 (by simp) rfl rfl ?_)
        clear hl a; intro a hl
        refine wl (wl_val hl rfl trivial (r_eqlA hl rfl rfl eqf36 shp36 (by simp only [unlitL, unlit]; rfl) (by simp only [unlitL, unlit]; rfl) (by first | exact lits49 hfb | exact ⟨trivial⟩ | (refine ⟨?_⟩; simp [LitsOk, litOk, Fits]; done) | (refine ⟨?_⟩; simp [LitsOk, litOk, Fits]; omega)) (by first | exact lits49 hfb | exact ⟨trivial⟩ | (refine ⟨?_⟩; simp [LitsOk, litOk, Fits]; done) | (refine ⟨?_⟩; simp [LitsOk, litOk, Fits]; omega))) ?_)
        clear hl a; intro a hl
        rw [heq] at hl
        refine wl (wl_val hl rfl trivial (r_move hl rfl) ?_)
        clear hl a; intro a hl
        first | refine wl (w_loadA hl hh rfl ⟨_, _, rfl, rfl, rfl⟩ agg33 rfl (by repeat (first | exact find_head | apply find_tail | apply find_skip)) (by first | (simp only [List.getElem?_cons_zero, List.getElem?_cons_succ, Value.cells, List.take_zero, List.take_succ_cons, List.take_nil, List.drop_zero, List.drop_succ_cons, List.drop_nil, List.length_cons, List.length_nil, List.cons_append, List.nil_append, List.append_nil, Nat.zero_add, Nat.add_zero, Nat.reduceAdd, Nat.reduceBEq, Nat.reduceEqDiff, Nat.ble, BEq.rfl, Bool.and_true, Bool.and_self, cond_true, beq_self_eq_true]; rfl)) (by first | rfl | (simp; done)) ?_) | refine wl (w_loadRA hl hh rfl ⟨_, _, rfl, rfl, rfl⟩ agg33 rfl hpre.2 (by simp) rfl rfl ?_)
        clear hl a; intro a hl
        first | refine wl (w_loadA hl hh rfl ⟨_, _, rfl, rfl, rfl⟩ agg33 rfl (by repeat (first | exact find_head | apply find_tail | apply find_skip)) (by first | (simp only [List.getElem?_cons_zero, List.getElem?_cons_succ, Value.cells, List.take_zero, List.take_succ_cons, List.take_nil, List.drop_zero, List.drop_succ_cons, List.drop_nil, List.length_cons, List.length_nil, List.cons_append, List.nil_append, List.append_nil, Nat.zero_add, Nat.add_zero, Nat.reduceAdd, Nat.reduceBEq, Nat.reduceEqDiff, Nat.ble, BEq.rfl, Bool.and_true, Bool.and_self, cond_true, beq_self_eq_true]; rfl)) (by first | rfl | (simp; done)) ?_) | refine wl (w_loadRA hl hh rfl ⟨_, _, rfl, rfl, rfl⟩ agg33 rfl hpre.2 (by simp) rfl rfl ?_)
        clear hl a; intro a hl
        refine wl (w_call hl hh rfl ⟨_, _, rfl, rfl, rfl⟩ rfl cal9 rfl (same22 n n2 hN hN2) (by repeat (first | exact keeps_nil | apply keeps_cons (by repeat (first | exact find_head | apply find_tail | apply find_skip)) (by first  | rfl) | exact keeps_self | exact keeps_left | apply keeps_app | apply keeps_mv | apply keeps_skip)) ⟨hG9.mem (memK hh (by repeat (first | exact keeps_nil | apply keeps_cons (by repeat (first | exact find_head | apply find_tail | apply find_skip)) (by first  | rfl) | exact keeps_self | exact keeps_left | apply keeps_app | apply keeps_mv | apply keeps_skip))) (memK hh (by repeat (first | exact keeps_nil | apply keeps_cons (by repeat (first | exact find_head | apply find_tail | apply find_skip)) (by first  | rfl) | exact keeps_self | exact keeps_left | apply keeps_app | apply keeps_mv | apply keeps_skip))) (memK hh (by repeat (first | exact keeps_nil | apply keeps_cons (by repeat (first | exact find_head | apply find_tail | apply find_skip)) (by first  | rfl) | exact keeps_self | exact keeps_left | apply keeps_app | apply keeps_mv | apply keeps_skip))), hG2.mem (memK hh (by repeat (first | exact keeps_nil | apply keeps_cons (by repeat (first | exact find_head | apply find_tail | apply find_skip)) (by first  | rfl) | exact keeps_self | exact keeps_left | apply keeps_app | apply keeps_mv | apply keeps_skip))) (memK hh (by repeat (first | exact keeps_nil | apply keeps_cons (by repeat (first | exact find_head | apply find_tail | apply find_skip)) (by first  | rfl) | exact keeps_self | exact keeps_left | apply keeps_app | apply keeps_mv | apply keeps_skip))) (memK hh (by repeat (first | exact keeps_nil | apply keeps_cons (by repeat (first | exact find_head | apply find_tail | apply find_skip)) (by first  | rfl) | exact keeps_self | exact keeps_left | apply keeps_app | apply keeps_mv | apply keeps_skip)))⟩ ?_)
        clear hl hh a w; intro vc Fc a w hR hl hh
        rcases hR with ⟨rfl, rfl⟩
        ·
          try simp only [List.cons_append, List.nil_append, List.append_nil] at hh
          rw [decide_eq_true (show (n.l = n2.l ∧ n.s = n2.s) ∧ n.q.map RV.ru = n2.q.map RV.ru from ⟨⟨hag.l.symm, hag.s.symm⟩, hag.q.symm⟩)] at hl
          refine wl (wl_val hl rfl trivial (r_pickT hl rfl rfl) ?_)
          clear hl a; intro a hl
          refine wl (wl_val hl rfl trivial (r_move hl rfl) ?_)
          clear hl a; intro a hl
          first | refine wl (w_loadA hl hh rfl ⟨_, _, rfl, rfl, rfl⟩ agg26 rfl (by repeat (first | exact find_head | apply find_tail | apply find_skip)) (by first | (simp only [List.getElem?_cons_zero, List.getElem?_cons_succ, Value.cells, List.take_zero, List.take_succ_cons, List.take_nil, List.drop_zero, List.drop_succ_cons, List.drop_nil, List.length_cons, List.length_nil, List.cons_append, List.nil_append, List.append_nil, Nat.zero_add, Nat.add_zero, Nat.reduceAdd, Nat.reduceBEq, Nat.reduceEqDiff, Nat.ble, BEq.rfl, Bool.and_true, Bool.and_self, cond_true, beq_self_eq_true]; rfl)) (by first | rfl | (simp; done)) ?_) | refine wl (w_loadRA hl hh rfl ⟨_, _, rfl, rfl, rfl⟩ agg26 rfl hpre.2 (by simp) rfl rfl ?_)
          clear hl a; intro a hl
          first | refine wl (w_loadA hl hh rfl ⟨_, _, rfl, rfl, rfl⟩ agg26 rfl (by repeat (first | exact find_head | apply find_tail | apply find_skip)) (by first | (simp only [List.getElem?_cons_zero, List.getElem?_cons_succ, Value.cells, List.take_zero, List.take_succ_cons, List.take_nil, List.drop_zero, List.drop_succ_cons, List.drop_nil, List.length_cons, List.length_nil, List.cons_append, List.nil_append, List.append_nil, Nat.zero_add, Nat.add_zero, Nat.reduceAdd, Nat.reduceBEq, Nat.reduceEqDiff, Nat.ble, BEq.rfl, Bool.and_true, Bool.and_self, cond_true, beq_self_eq_true]; rfl)) (by first | rfl | (simp; done)) ?_) | refine wl (w_loadRA hl hh rfl ⟨_, _, rfl, rfl, rfl⟩ agg26 rfl hpre.2 (by simp) rfl rfl ?_)
          clear hl a; intro a hl
          refine wl (w_call hl hh rfl ⟨_, _, rfl, rfl, rfl⟩ rfl cal10 rfl (sameP_spec rs rp rc RE hp rt tp tc TE ht (by omega) (by omega)) (by repeat (first | exact keeps_nil | apply keeps_cons (by repeat (first | exact find_head | apply find_tail | apply find_skip)) (by first  | rfl) | exact keeps_self | exact keeps_left | apply keeps_app | apply keeps_mv | apply keeps_skip)) ⟨(prw_of (memK hh (by repeat (first | exact keeps_nil | apply keeps_cons (by repeat (first | exact find_head | apply find_tail | apply find_skip)) (by first  | rfl) | exact keeps_self | exact keeps_left | apply keeps_app | apply keeps_mv | apply keeps_skip)))), (prw_of (memK hh (by repeat (first | exact keeps_nil | apply keeps_cons (by repeat (first | exact find_head | apply find_tail | apply find_skip)) (by first  | rfl) | exact keeps_self | exact keeps_left | apply keeps_app | apply keeps_mv | apply keeps_skip))))⟩ ?_)
          clear hl hh a w; intro vc Fc a w hR hl hh
          obtain ⟨rfl, rfl⟩ := hR
          try simp only [List.cons_append, List.nil_append, List.append_assoc, List.append_nil] at hh
          refine wl (wl_val hl rfl trivial (r_pickT hl rfl rfl) ?_)
          clear hl a; intro a hl
          refine wl (wl_val hl rfl trivial (r_assign hl rfl) ?_)
          clear hl a; intro a hl
          refine w_nil ?_
          have hl2 := hl.add (t := 2) (hl.nil) rfl; clear hl; have hl := hl2; clear hl2
          refine then_normal ?_
          refine wp_ret ?_
          refine f_ret1 (F' := []) hl hh rfl rfl (by repeat (first | exact keeps_nil | apply keeps_cons (by repeat (first | exact find_head | apply find_tail | apply find_skip)) (by first  | rfl) | exact keeps_self | exact keeps_left | apply keeps_app | apply keeps_mv | apply keeps_skip)) ?_
          first | exact ⟨rfl, rfl⟩ | exact ⟨congrArg Value.bool (decide_eq_true hte.symm), rfl⟩
end Go.Proofs.Qxb6500915aGreatDoor

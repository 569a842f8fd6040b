import Derived.Test.Qxb6500912aGreatDoorA13
import Derived.Test.Qxb6500912aGreatDoorMkn
namespace Go.Proofs.Qxb6500912aGreatDoor
open Go.Eng
set_option linter.unusedVariables false
set_option linter.unusedSimpArgs false

/-! ## the bench -/
section fn_
variable {P : Program} {n : Nat} {L : List (Nat × Value)} {a : Act} {w : World} {T : TypeId} {pos : String} {aft : Array Edge} {g : Option (Nat × Bool)} {dst : Option Nat} {x y : Operand}
def fnT (P : Program) (t : TypeId) : Bool := match P.underlying t with | some (.func ..) => true | _ => false
theorem run_eq_fnN {t : TypeId} (ht : fnT P t = true) : (Op.equal t .nilFunc .nilFunc).run P w = .ok true w := by
  unfold fnT at ht
  split at ht
  · rename_i hu
    unfold Op.equal
    show (Op.equalIn (9999 + 1) t .nilFunc .nilFunc).run P w = _
    unfold Op.equalIn
    simp [run_underlying hu]
  · cases ht
theorem run_eq_fnS {t : TypeId} {f : Fn} {fi ca : Array Value} (ht : fnT P t = true) : (Op.equal t (.func f fi ca) .nilFunc).run P w = .ok false w := by
  unfold fnT at ht
  split at ht
  · rename_i hu
    unfold Op.equal
    show (Op.equalIn (9999 + 1) t (.func f fi ca) .nilFunc).run P w = _
    unfold Op.equalIn
    simp [run_underlying hu]
  · cases ht
theorem r_eql_fnN {t u : TypeId} (hl : Sl n L a) (hx : val L x = some .nilFunc) (ht : fnT P t = true) : Gives P a ⟨dst, .binOp .eql t x (.const .nilFunc) u, T, pos, aft, g⟩ w (.bool true) w := by
  have hc : a.eval (.const .nilFunc) = .nilFunc := rfl
  simp [Gives, execOp, hl.ev hx, hc, eqGuard, binOp, run_eq_fnN ht]
theorem r_neq_fnN {t u : TypeId} (hl : Sl n L a) (hx : val L x = some .nilFunc) (ht : fnT P t = true) : Gives P a ⟨dst, .binOp .neq t x (.const .nilFunc) u, T, pos, aft, g⟩ w (.bool false) w := by
  have hc : a.eval (.const .nilFunc) = .nilFunc := rfl
  simp [Gives, execOp, hl.ev hx, hc, eqGuard, binOp, run_eq_fnN ht]
theorem r_eql_fnS {t u : TypeId} {f : Fn} {fi ca : Array Value} (hl : Sl n L a) (hx : val L x = some (.func f fi ca)) (ht : fnT P t = true) : Gives P a ⟨dst, .binOp .eql t x (.const .nilFunc) u, T, pos, aft, g⟩ w (.bool false) w := by
  have hc : a.eval (.const .nilFunc) = .nilFunc := rfl
  simp [Gives, execOp, hl.ev hx, hc, eqGuard, binOp, run_eq_fnS ht]
theorem r_neq_fnS {t u : TypeId} {f : Fn} {fi ca : Array Value} (hl : Sl n L a) (hx : val L x = some (.func f fi ca)) (ht : fnT P t = true) : Gives P a ⟨dst, .binOp .neq t x (.const .nilFunc) u, T, pos, aft, g⟩ w (.bool true) w := by
  have hc : a.eval (.const .nilFunc) = .nilFunc := rfl
  simp [Gives, execOp, hl.ev hx, hc, eqGuard, binOp, run_eq_fnS ht]
end fn_
/-- an op of the script -/
structure DO where
  kd : Int
  cf : CF
  A : Int
  B : Int
  dup : Bool
  gr : Int
  p : Option Addr
  cap : Nat
  dat : List (Int × Int)
  Sc : List (Nat × Obj)
def DO.vals (o : DO) : List Value := [.int .u8 o.kd, .int .u32 o.cf.init, .int .u32 o.cf.maxc, .int .u32 o.cf.bn, .int .u32 o.cf.bd, .int .u32 o.cf.abc, .int .u32 o.cf.dupt, .bool o.cf.idle, .int .u32 o.cf.mss, .int .u32 o.cf.start, .bool o.cf.sack, .int .u32 o.A, .int .u32 o.B, .bool o.dup, .int .u8 o.gr, .slice o.p o.dat.length o.cap]
structure DO.ok (o : DO) : Prop where
  kd : 0 ≤ o.kd ∧ o.kd ≤ 255
  cf : CFok o.cf
  A : U o.A
  B : U o.B
  src : (o.dat = [] ∧ o.Sc = []) ∨ ∃ (db off : Nat) (c : List Value) (T : TypeId) (fr : Nat × Nat), o.p = some ⟨db, off, none⟩ ∧ o.Sc = [(db, .cells ⟨c⟩ T fr)] ∧ ∀ i q, o.dat[i]? = some q → (c.drop (off + i * 2)).take 2 = pc q
def absb (u : Int) (q : Int × Int) : Int × Int := ((u + q.1) % 4294967296, (u + q.2) % 4294967296)
theorem src_at {o : DO} (h : o.ok) {i : Nat} {q : Int × Int} (hq : o.dat[i]? = some q) : ∃ (db off : Nat) (c : List Value) (T : TypeId) (fr : Nat × Nat), o.p = some ⟨db, off, none⟩ ∧ (db, .cells ⟨c⟩ T fr) ∈ o.Sc ∧ (c.drop (off + i * 2)).take 2 = [.int .u32 q.1, .int .u32 q.2] := by
  rcases h.src with ⟨h1, _⟩ | ⟨db, off, c, T, fr, h1, h2, h3⟩
  · rw [h1] at hq; cases hq
  · exact ⟨db, off, c, T, fr, h1, by rw [h2]; simp, h3 i q hq⟩
/-- the copy so far -/
def absL (u : Int) (dat : List (Int × Int)) (i : Nat) (junk : List Value) : List Value := fl pc ((dat.take i).map (absb u)) ++ junk.drop (i * 2)
theorem absL_len {u : Int} {dat : List (Int × Int)} {i : Nat} {junk : List Value} (h : i ≤ dat.length) (hj : junk.length = dat.length * 2) : (absL u dat i junk).length = dat.length * 2 := by
  unfold absL; rw [List.length_append, fl_len pc_len, List.length_map, List.length_take, List.length_drop]; omega
theorem absL_set {u : Int} {dat : List (Int × Int)} {i : Nat} {junk : List Value} {q : Int × Int} (hq : dat[i]? = some q) (hj : junk.length = dat.length * 2) : setL (absL u dat i junk) (0 + i * 2) [.int .u32 ((u + q.1) % 4294967296), .int .u32 ((u + q.2) % 4294967296)] = absL u dat (i + 1) junk := by
  obtain ⟨hi, rfl⟩ := List.getElem?_eq_some_iff.1 hq
  have hA : (fl pc ((dat.take i).map (absb u))).length = i * 2 := by rw [fl_len pc_len, List.length_map, List.length_take]; omega
  have e1 : junk.drop (i * 2) = (junk.drop (i * 2)).take 2 ++ junk.drop ((i + 1) * 2) := by
    rw [show (i + 1) * 2 = i * 2 + 2 by omega, ← List.drop_drop, List.take_append_drop]
  have hJ : ((junk.drop (i * 2)).take 2).length = 2 := by rw [List.length_take, List.length_drop]; omega
  generalize (junk.drop (i * 2)).take 2 = J at e1 hJ
  have hm := setL_mid (fl pc ((dat.take i).map (absb u))) J (junk.drop ((i + 1) * 2)) [.int .u32 ((u + dat[i].1) % 4294967296), .int .u32 ((u + dat[i].2) % 4294967296)] (by rw [hJ]; rfl)
  rw [hA] at hm
  unfold absL
  rw [e1, Nat.zero_add, ← List.append_assoc, hm, List.take_add_one, hq, List.map_append, fl_append]
  simp [fl, pc, absb]
theorem absL_0 (u : Int) (dat : List (Int × Int)) (junk : List Value) : junk = absL u dat 0 junk := by unfold absL; simp [fl]
theorem absL_end {u : Int} {dat : List (Int × Int)} {i : Nat} {junk : List Value} (h : i = dat.length) (hj : junk.length = dat.length * 2) : absL u dat i junk = fl pc (dat.map (absb u)) ++ [] := by
  unfold absL; rw [h, List.take_length, List.drop_of_length_le (by omega)]
inductive SentC (s : CS) : CS → Prop
  | refl : SentC s s
  | step {s1 : CS} (k q n : Int) : SentC s s1 → SentC s (sentP s1 k q n)
/-- what an op does -/
theorem holesF_U {s : CS} (hs : Ok s) {bl : List (Int × Int)} : ∀ (l : List (Int × Int)) (a : Int), U a → (∀ q, q ∈ l → U q.1 ∧ U q.2) → ∀ x, x ∈ holesF s bl l a → U x.s ∧ U x.e := by
  have hseg : ∀ a e t, U a → U e → ∀ x, x ∈ hsegP s bl a e t → U x.s ∧ U x.e := fun a e t ha he x hx => by
    have hr := hs.recov
    unfold hsegP at hx
    split at hx
    · simp only [List.mem_cons, List.not_mem_nil, or_false] at hx
      rcases hx with rfl | rfl
      · exact ⟨ha, hr⟩
      · exact ⟨hr, he⟩
    split at hx
    · simp only [List.mem_cons, List.not_mem_nil, or_false] at hx
      subst hx; exact ⟨ha, he⟩
    · cases hx
  intro l
  induction l with
  | nil => intro a ha _ x hx; exact hseg a s.nxt true ha hs.nxt x hx
  | cons b r ih =>
    intro a ha hq x hx
    rcases List.mem_append.1 hx with h | h
    · exact hseg a b.1 false ha (hq b (by simp)).1 x h
    · exact ih b.2 (hq b (by simp)).2 (fun q hm => hq q (by simp [hm])) x h
theorem bl_U (t : St) : ∀ q, q ∈ t.bl → U q.1 ∧ U q.2 := fun q hq => by
  unfold St.bl at hq
  obtain ⟨x, _, rfl⟩ := List.mem_map.1 hq
  unfold Bk.ab
  exact ⟨⟨by simp only; omega, by simp only; omega⟩, ⟨by simp only; omega, by simp only; omega⟩⟩
theorem nextP_rng {s : CS} (hs : Ok s) (ns : Bool) {bl : List (Int × Int)} (hb : ∀ q, q ∈ bl → U q.1 ∧ U q.2) {fresh : Int} (hf : U fresh) (hfl : flightP s ≤ 2147483647) : (0 ≤ (nextP s ns bl fresh).k ∧ (nextP s ns bl fresh).k ≤ 3) ∧ U (nextP s ns bl fresh).q ∧ U (nextP s ns bl fresh).n := by
  have hH := holesF_U (bl := bl) hs bl s.una hs.una hb
  have hfu := flightP_U s
  have hm := hs.mss
  have hun := hs.una; have hnx := hs.nxt; have hhi := hs.high
  have hG : ∀ g : Gr, ((0 ≤ g.k ∧ g.k ≤ 3) ∧ U g.q ∧ U g.n) = ((0 ≤ g.k ∧ g.k ≤ 3) ∧ (0 ≤ g.q ∧ g.q < 4294967296) ∧ (0 ≤ g.n ∧ g.n < 4294967296)) := fun g => rfl
  have h0 : (0 ≤ g0.k ∧ g0.k ≤ 3) ∧ U g0.q ∧ U g0.n := by unfold g0; refine ⟨⟨by decide, by decide⟩, ⟨by decide, by decide⟩, by decide, by decide⟩
  have hnh : ∀ lost g, nhP s bl lost = some g → (0 ≤ g.k ∧ g.k ≤ 3) ∧ U g.q ∧ U g.n := fun lost g hg => by
    unfold nhP at hg
    obtain ⟨x, hx, he⟩ := List.exists_of_findSome?_eq_some hg
    have hu := hH x hx
    unfold nhOk at he
    split at he
    · cases he
    split at he
    · injection he with he; subst he
      refine ⟨⟨by simp only; omega, by simp only; omega⟩, ?_, ?_⟩
      · simp only; unfold nhS; split
        · exact hhi
        · exact hu.1
      · exact ⟨by simp only; omega, by simp only; omega⟩
    · cases he
  have hc2 : (0 ≤ (cand2 s ns bl).k ∧ (cand2 s ns bl).k ≤ 3) ∧ U (cand2 s ns bl).q ∧ U (cand2 s ns bl).n := by
    unfold cand2; split
    · cases h : nhP s bl false with
      | some g => exact hnh false g h
      | none =>
        simp only [Option.getD_none]; split
        · unfold resP resN; exact ⟨⟨by simp only; omega, by simp only; omega⟩, ⟨by simp only; omega, by simp only; omega⟩, ⟨by simp only; omega, by simp only; omega⟩⟩
        · exact h0
    · exact h0
  have hc1 : (0 ≤ (cand1 s ns bl fresh).k ∧ (cand1 s ns bl fresh).k ≤ 3) ∧ U (cand1 s ns bl fresh).q ∧ U (cand1 s ns bl fresh).n := by
    unfold cand1; split
    · exact ⟨⟨by simp only; omega, by simp only; omega⟩, hnx, ⟨by simp only; omega, by simp only; obtain ⟨f1, f2⟩ := hf; omega⟩⟩
    · exact hc2
  have hc : (0 ≤ (candP s ns bl fresh).k ∧ (candP s ns bl fresh).k ≤ 3) ∧ U (candP s ns bl fresh).q ∧ U (candP s ns bl fresh).n := by
    unfold candP; split
    · cases h : nhP s bl true with
      | some g => exact hnh true g h
      | none => exact hc1
    · exact hc1
  unfold nextP; split
  · exact ⟨⟨by simp only; omega, by simp only; omega⟩, hun, ⟨by simp only; omega, by simp only; omega⟩⟩
  split
  · exact h0
  · exact hc
structure PS where
  Z : List (Nat × Obj)
  t : St
  f : Int
  i : Nat


set_option maxHeartbeats 1000000 in
theorem absolute_spec (o : DO) (h : o.ok) (hN : o.dat.length ≤ 65536) (u : Int) : SpK Tryz.prog 19 #[.slice o.p o.dat.length o.cap, .int .u32 u] (Mem o.Sc) [] (fun v F' => Row v o.dat.length (fl pc (o.dat.map (absb u))) 2 73 F') := by
  refine f_enter (args := [.slice o.p o.dat.length o.cap, .int .u32 u]) Tryz.func19 rfl Tryz.ntmps19 rfl ?_
  intro w0 w a hpre hl hh
  simp only [slotsFrom, Nat.reduceAdd] at hl
  refine c_seq ?_
  refine c_region ?_
  refine wl (wl_val hl rfl trivial (r_assign hl rfl) ?_)
  clear hl a; intro a hl
  refine w_nil ?_
  have hl2 := hl.add (t := 0) (hl.add (t := 1) (hl.nil) rfl) rfl; clear hl; have hl := hl2; clear hl2
  refine then_normal ?_
  refine c_seq ?_
  refine c_region ?_
  refine wl (wl_val hl rfl trivial (r_move hl rfl) ?_)
  clear hl a; intro a hl
  refine wl (wl_val hl rfl trivial (r_lenS hl rfl slc48) ?_)
  clear hl a; intro a hl
  refine wl (w_makeSliceN hl hh rfl trivial app48 zero73 rfl rfl (by omega) (by decide) ?_)
  clear hl hh a w; intro k10 jk10 a w hjk10 hl hh
  refine wl (wl_val hl rfl trivial (r_assign hl rfl) ?_)
  clear hl a; intro a hl
  refine w_nil ?_
  have hl2 := hl.add (t := 0) (hl.add (t := 1) (hl.add (t := 5) (hl.nil) rfl) rfl) rfl; clear hl; have hl := hl2; clear hl2
  refine then_normal ?_
  refine c_seq ?_
  refine c_seq ?_
  refine c_region ?_
  refine wl (wl_val hl rfl trivial (r_move hl rfl) ?_)
  clear hl a; intro a hl
  refine wl (wl_val hl rfl trivial (r_lenS hl rfl slc48) ?_)
  clear hl a; intro a hl
  refine wl (wl_val hl rfl trivial (r_move hl rfl) ?_)
  clear hl a; intro a hl
  refine w_nil ?_
  have hl2 := hl.add (t := 1) (hl.add (t := 5) (hl.add (t := 11) (hl.add (t := 12) (hl.add (t := 13) (hl.nil) rfl) rfl) rfl) rfl) rfl; clear hl; have hl := hl2; clear hl2
  refine then_normal ?_
  refine wp_block ?_
  obtain ⟨KS0, hKS0, hk⟩ := (hl.add (t := 1) (hl.add (t := 5) (hl.add (t := 11) (hl.add (t := 12) (hl.nil) rfl) rfl) rfl) rfl).name
  obtain ⟨HS0, hHS0, hh2⟩ := hh.name (keeps_cons (b := k10) (o' := C (absL u o.dat 0 jk10) 73) (by repeat (first | exact find_head | apply find_tail)) (by first | exact congrArg (fun z => C z 73) (absL_0 _ _ _) | rfl) (keeps_nil))
  refine c_loop (α := Nat) (fun i => o.dat.length - i) (fun i a w => (i ≤ o.dat.length) ∧ Sl 32 ([(13, .int .i64 (i : Int))] ++ KS0) a ∧ Has _ w0 ([(k10, C (absL u o.dat i jk10) 73)] ++ HS0) w) 0 ⟨(Nat.zero_le _), hl.addE (t := 13) (hk) rfl (by first | rfl), hh2⟩ ?_
  clear hk hh2 hl hh a w
  intro i a w hI
  obtain ⟨hi, hl, hh⟩ := hI
  subst hKS0; subst hHS0
  simp only [List.cons_append, List.nil_append, List.append_nil] at hl hh
  refine c_seq ?_
  refine c_region ?_
  refine wl (wl_val hl rfl trivial (r_lss hl rfl rfl) ?_)
  clear hl a; intro a hl
  refine w_nil ?_
  have hl2 := hl.add (t := 1) (hl.add (t := 5) (hl.add (t := 11) (hl.add (t := 12) (hl.add (t := 13) (hl.add (t := 14) (hl.nil) rfl) rfl) rfl) rfl) rfl) rfl; clear hl; have hl := hl2; clear hl2
  refine then_normal ?_
  refine c_seq ?_
  refine c_cond hl rfl ?_ ?_
  · intro hc0
    try simp only [decide_eq_true_eq, decide_eq_false_iff_not, Bool.not_eq_true', Bool.not_eq_false', Bool.not_eq_true, Bool.not_eq_false, Bool.and_eq_true, Bool.or_eq_true, Bool.and_eq_false_iff, Bool.or_eq_false_iff, Bool.not_not, ne_eq, Int.not_lt, Int.not_le, Decidable.not_not, beq_iff_eq, bne_iff_ne] at hc0
    obtain ⟨q, hq⟩ : ∃ q, o.dat[i]? = some q := ⟨_, List.getElem?_eq_getElem (by omega)⟩
    obtain ⟨db, off, sc_, sT, sfr, hp_, hsm, hrd⟩ := src_at h hq
    rw [hp_] at hl
    have hms := hpre _ _ hsm
    refine wp_skip ?_
    refine then_normal ?_
    refine c_seq ?_
    refine wp_block ?_
    refine c_seq ?_
    refine c_region ?_
    refine wl (wl_val hl rfl trivial (r_move hl rfl) ?_)
    clear hl a; intro a hl
    refine wl (wl_val hl rfl trivial (r_indexS hl rfl rfl slc48 (by omega) (by omega) (by first | (simp only [Int.reduceToNat]; rfl) | exact toNat_add1 _ | exact toNat_add2 _ _ | exact toNat_emod _ _ | exact Int.toNat_natCast _ | rfl)) ?_)
    clear hl a; intro a hl
    first | refine wl (w_loadA hl hh rfl trivial agg73 rfl (by repeat (first | exact find_head | apply find_tail)) (by first | (simp only [List.getElem?_cons_zero, List.getElem?_cons_succ, Value.cells, List.take_zero, List.take_succ_cons, List.take_nil, List.drop_zero, List.drop_succ_cons, List.drop_nil, List.length_cons, List.length_nil, List.cons_append, List.nil_append, List.append_nil, Nat.zero_add, Nat.add_zero, Nat.reduceAdd, Nat.reduceBEq, Nat.reduceEqDiff, Nat.ble, BEq.rfl, Bool.and_true, Bool.and_self, cond_true, beq_self_eq_true]; rfl)) (by first | rfl | (simp; done)) ?_) | refine wl (w_loadRA hl hh rfl trivial agg73 rfl hms (by simp) hrd rfl ?_)
    clear hl a; intro a hl
    refine wl (w_alloc hl hh rfl trivial zero73 rfl ?_)
    clear hl hh a w; intro k7 a w hl hh
    refine wl (wl_val hl rfl trivial (r_assign hl rfl) ?_)
    clear hl a; intro a hl
    refine wl (w_storeA hl hh trivial agg73 rfl rfl (by repeat (first | exact find_head | apply find_tail)) (by first | rfl | (simp; done)) (by first | (simp; done) | (simp; omega) | (rw [absL_len (by omega) hjk10.1]; omega)) (by first | rfl | (simp; done) | rfl) (by first | exact absL_set hq hjk10.1 | (simp only [setL, List.getElem?_cons_zero, List.getElem?_cons_succ, Value.cells, List.take_zero, List.take_succ_cons, List.take_nil, List.drop_zero, List.drop_succ_cons, List.drop_nil, List.length_cons, List.length_nil, List.cons_append, List.nil_append, List.append_nil, Nat.zero_add, Nat.add_zero, Nat.reduceAdd, Nat.reduceBEq, Nat.reduceEqDiff, Nat.ble, BEq.rfl, Bool.and_true, Bool.and_self, cond_true, beq_self_eq_true]; rfl) | (simp only [setL, List.getElem?_cons_zero, List.getElem?_cons_succ, Value.cells, List.take_zero, List.take_succ_cons, List.take_nil, List.drop_zero, List.drop_succ_cons, List.drop_nil, List.length_cons, List.length_nil, List.cons_append, List.nil_append, List.append_nil, Nat.zero_add, Nat.add_zero, Nat.reduceAdd, Nat.reduceBEq, Nat.reduceEqDiff, Nat.ble, BEq.rfl, Bool.and_true, Bool.and_self, cond_true, beq_self_eq_true]; rfl)) ?_)
    clear hh w; intro w hh
    refine w_nil ?_
    have hl2 := hl.add (t := 1) (hl.add (t := 5) (hl.add (t := 6) (hl.add (t := 7) (hl.add (t := 11) (hl.add (t := 12) (hl.add (t := 13) (hl.nil) rfl) rfl) rfl) rfl) rfl) rfl) rfl; clear hl; have hl := hl2; clear hl2
    refine then_normal ?_
    refine c_region ?_
    refine wl (wl_val hl rfl trivial (r_move hl rfl) ?_)
    clear hl a; intro a hl
    refine wl (wl_val hl rfl trivial (r_move hl rfl) ?_)
    clear hl a; intro a hl
    refine wl (wl_val hl rfl trivial (r_move hl rfl) ?_)
    clear hl a; intro a hl
    refine wl (wl_val hl rfl trivial (r_field hl rfl fld73_0) ?_)
    clear hl a; intro a hl
    refine wl (w_load hl hh rfl trivial one29 rfl (by repeat (first | exact find_head | apply find_tail)) (by first | rfl) ?_)
    clear hl a; intro a hl
    refine wl (wl_val hl rfl trivial (r_addM wm_u32 hl rfl rfl) ?_)
    clear hl a; intro a hl
    refine wl (wl_val hl rfl trivial (r_move hl rfl) ?_)
    clear hl a; intro a hl
    refine wl (wl_val hl rfl trivial (r_field hl rfl fld73_1) ?_)
    clear hl a; intro a hl
    refine wl (w_load hl hh rfl trivial one29 rfl (by repeat (first | exact find_head | apply find_tail)) (by first | rfl) ?_)
    clear hl a; intro a hl
    refine wl (wl_val hl rfl trivial (r_addM wm_u32 hl rfl rfl) ?_)
    clear hl a; intro a hl
    refine wl (wl_val hl rfl trivial (r_build hl rfl zero73 bld73 (by simp only [fillL, setL, List.getElem?_cons_zero, List.getElem?_cons_succ, Value.cells, List.take_zero, List.take_succ_cons, List.take_nil, List.drop_zero, List.drop_succ_cons, List.drop_nil, List.length_cons, List.length_nil, List.cons_append, List.nil_append, List.append_nil, Nat.zero_add, Nat.add_zero, Nat.reduceAdd, Nat.reduceBEq, Nat.reduceEqDiff, Nat.ble, BEq.rfl, Bool.and_true, Bool.and_self, cond_true, beq_self_eq_true]; rfl)) ?_)
    clear hl a; intro a hl
    refine wl (wl_val hl rfl trivial (r_indexS hl rfl rfl slc48 (by omega) (by omega) (by first | (simp only [Int.reduceToNat]; rfl) | exact toNat_add1 _ | exact toNat_add2 _ _ | exact toNat_emod _ _ | exact Int.toNat_natCast _ | rfl)) ?_)
    clear hl a; intro a hl
    refine wl (w_storeA hl hh trivial agg73 rfl rfl (by repeat (first | exact find_head | apply find_tail)) (by first | rfl | (simp; done)) (by first | (simp; done) | (simp; omega) | (rw [absL_len (by omega) hjk10.1]; omega)) (by first | rfl | (simp; done) | rfl) (by first | exact absL_set hq hjk10.1 | (simp only [setL, List.getElem?_cons_zero, List.getElem?_cons_succ, Value.cells, List.take_zero, List.take_succ_cons, List.take_nil, List.drop_zero, List.drop_succ_cons, List.drop_nil, List.length_cons, List.length_nil, List.cons_append, List.nil_append, List.append_nil, Nat.zero_add, Nat.add_zero, Nat.reduceAdd, Nat.reduceBEq, Nat.reduceEqDiff, Nat.ble, BEq.rfl, Bool.and_true, Bool.and_self, cond_true, beq_self_eq_true]; rfl) | (simp only [setL, List.getElem?_cons_zero, List.getElem?_cons_succ, Value.cells, List.take_zero, List.take_succ_cons, List.take_nil, List.drop_zero, List.drop_succ_cons, List.drop_nil, List.length_cons, List.length_nil, List.cons_append, List.nil_append, List.append_nil, Nat.zero_add, Nat.add_zero, Nat.reduceAdd, Nat.reduceBEq, Nat.reduceEqDiff, Nat.ble, BEq.rfl, Bool.and_true, Bool.and_self, cond_true, beq_self_eq_true]; rfl)) ?_)
    clear hh w; intro w hh
    refine w_nil ?_
    have hl2 := hl.add (t := 1) (hl.add (t := 5) (hl.add (t := 11) (hl.add (t := 12) (hl.add (t := 13) (hl.nil) rfl) rfl) rfl) rfl) rfl; clear hl; have hl := hl2; clear hl2
    refine blk_normal ?_
    refine then_normal ?_
    refine c_region ?_
    first | refine wl (wl_val hl rfl trivial (r_add hl rfl rfl (by simp only [Fits]; omega)) ?_) | refine wl (wl_val hl rfl trivial (r_addW hl rfl rfl) ?_)
    clear hl a; intro a hl
    refine wl (wl_val hl rfl trivial (r_move hl rfl) ?_)
    clear hl a; intro a hl
    refine w_nil ?_
    have hl2 := hl.add (t := 1) (hl.add (t := 5) (hl.add (t := 11) (hl.add (t := 12) (hl.add (t := 13) (hl.nil) rfl) rfl) rfl) rfl) rfl; clear hl; have hl := hl2; clear hl2
    refine then_normal ?_
    refine ⟨i + 1, (by omega), (by omega), hl.addE (t := 13) (hl.addE (t := 1) (hl.addE (t := 5) (hl.addE (t := 11) (hl.addE (t := 12) (hl.nil) rfl (by first | rfl | exact congrArg (Value.int .i64) (i_succ i) | exact congrArg (fun z => Value.slice z _ _) hp_.symm)) rfl (by first | rfl | exact congrArg (Value.int .i64) (i_succ i) | exact congrArg (fun z => Value.slice z _ _) hp_.symm)) rfl (by first | rfl | exact congrArg (Value.int .i64) (i_succ i) | exact congrArg (fun z => Value.slice z _ _) hp_.symm)) rfl (by first | rfl | exact congrArg (Value.int .i64) (i_succ i) | exact congrArg (fun z => Value.slice z _ _) hp_.symm)) rfl (by first | rfl | exact congrArg (Value.int .i64) (i_succ i) | exact congrArg (fun z => Value.slice z _ _) hp_.symm), hh.keep (by repeat (first | exact keeps_nil | apply keeps_cons (by repeat (first | exact find_head | apply find_tail)) (by first  | rfl) | exact keeps_self | apply keeps_mv))⟩
  · intro hc0
    try simp only [decide_eq_true_eq, decide_eq_false_iff_not, Bool.not_eq_true', Bool.not_eq_false', Bool.not_eq_true, Bool.not_eq_false, Bool.and_eq_true, Bool.or_eq_true, Bool.and_eq_false_iff, Bool.or_eq_false_iff, Bool.not_not, ne_eq, Int.not_lt, Int.not_le, Decidable.not_not, beq_iff_eq, bne_iff_ne] at hc0
    have hie : i = o.dat.length := by omega
    rw [absL_end hie hjk10.1] at hh
    refine wp_exit ?_
    refine then_exit ?_
    refine then_exit ?_
    refine blk_exit ?_
    refine then_normal ?_
    refine c_seq ?_
    refine c_region ?_
    refine wl (wl_val hl rfl trivial (r_move hl rfl) ?_)
    clear hl a; intro a hl
    refine wl (wl_val hl rfl trivial (r_assign hl rfl) ?_)
    clear hl a; intro a hl
    refine w_nil ?_
    have hl2 := hl.add (t := 4) (hl.nil) rfl; clear hl; have hl := hl2; clear hl2
    refine then_normal ?_
    refine wp_ret ?_
    refine f_ret1 (F' := [(k10, C (fl pc (o.dat.map (absb u)) ++ []) 73)]) hl hh rfl rfl (by repeat (first | exact keeps_nil | apply keeps_cons (by repeat (first | exact find_head | apply find_tail)) (by first  | rfl) | exact keeps_self | apply keeps_mv)) ?_
    exact .inr ⟨k10, o.dat.length, [], rfl, by rw [fl_len pc_len, List.length_map], by rw [List.append_nil, fl_len pc_len, List.length_map], Nat.le_refl _, rfl⟩
end Go.Proofs.Qxb6500912aGreatDoor

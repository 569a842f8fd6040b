import Derived.Test.Qxb6500915aGreatDoorF3
namespace Go.Proofs.Qxb6500915aGreatDoor
open Go.Eng
set_option linter.unusedVariables false
set_option linter.unusedSimpArgs false
theorem cal67 : callable Tryz.prog 67 = true := by kernel_rfl
/-! ## NegativeCycle -/
section negc
def relB (irs : List IR) (a b : ByteArray) : Bool := irs.any fun x => decide (x.n = a ∧ b ∈ ks x.l)
theorem relB_iff {irs : List IR} {a b : ByteArray} : relB irs a b = true ↔ Rel irs a b := by
  unfold relB Rel
  rw [List.any_eq_true]
  exact ⟨fun ⟨x, hx, h⟩ => ⟨x, hx, (of_decide_eq_true h).1, (of_decide_eq_true h).2⟩, fun ⟨x, hx, h⟩ => ⟨x, hx, decide_eq_true h⟩⟩
def badM (irs : List IR) (h q : ByteArray) : Bool := relB irs q h
structure BadN (rs : List Ru) (bad : ByteArray → ByteArray → Bool) : Prop where
  iff : ∀ h q, bad h q = true ↔ Pth (NE rs) (fun _ => True) q h
def ngV (o : Option (Nat × Nat)) : Value := match o with
  | some (i, j) => .tuple #[.int .i64 (i : Int), .int .i64 (j : Int), .bool true]
  | none => .tuple #[.int .i64 0, .int .i64 0, .bool false]
end negc
/-! ## Strata -/
section strata
def nv : Value → Nat
  | .int _ k => k.toNat
  | _ => 0
def sOf (l : List (ByteArray × Value)) (n : ByteArray) : Nat := nv ((mget l n).getD (.int .i64 0))
def IntV (l : List (ByteArray × Value)) : Prop := ∀ n v, mget l n = some v → ∃ k : Nat, v = .int .i64 (k : Int)
theorem IntV.nil : IntV [] := fun n v h => by cases h
theorem sO_get {l : List (ByteArray × Value)} (h : IntV l) (n : ByteArray) : (mget l n).getD (.int .i64 0) = .int .i64 (sOf l n : Int) := by
  unfold sOf
  cases hq : mget l n with
  | none => rfl
  | some v =>
    obtain ⟨k, e⟩ := h n v hq
    rw [e]; simp [nv]
theorem IntV.put {l : List (ByteArray × Value)} (h : IntV l) (a : ByteArray) (k : Nat) : IntV (mput l a (.int .i64 (k : Int))) := by
  intro n v hv
  rw [mget_mput] at hv
  split at hv
  · injection hv with hv; exact ⟨k, hv.symm⟩
  · exact h n v hv
theorem sO_put (l : List (ByteArray × Value)) (a : ByteArray) (k : Nat) (n : ByteArray) : sOf (mput l a (.int .i64 (k : Int))) n = if n = a then k else sOf l n := by
  unfold sOf
  rw [mget_mput]
  by_cases e : n = a
  · rw [if_pos e, if_pos e]; simp [nv]
  · rw [if_neg e, if_neg e]
def Iq (s : ByteArray → Nat) (h : ByteArray) (x : Lt) : Prop := (x.k = 0 → s x.p ≤ s h) ∧ (x.k = 2 → s x.p + 1 ≤ s h)
def NSol (rs : List Ru) (s : ByteArray → Nat) : Prop := ∀ r x, r ∈ rs → x ∈ r.b → Iq s r.p x
def mu (ns : List ByteArray) (L : ByteArray → Nat) (l : List (ByteArray × Value)) : Nat := (ns.map fun n => L n - sOf l n).sum
theorem mu_le {L : ByteArray → Nat} {l l' : List (ByteArray × Value)} (h : ∀ n, sOf l n ≤ sOf l' n) : ∀ ns : List ByteArray, mu ns L l' ≤ mu ns L l
  | [] => Nat.le_refl _
  | n :: ns => by
    have := mu_le (L := L) h ns
    have := h n
    show (L n - sOf l' n) + mu ns L l' ≤ (L n - sOf l n) + mu ns L l
    omega
theorem mu_lt {L : ByteArray → Nat} {l l' : List (ByteArray × Value)} {a : ByteArray} (h : ∀ n, sOf l n ≤ sOf l' n) (h1 : sOf l a < sOf l' a) (h2 : sOf l' a ≤ L a) : ∀ ns : List ByteArray, a ∈ ns → mu ns L l' < mu ns L l
  | [], hm => by cases hm
  | n :: ns, hm => by
    have h3 := mu_le (L := L) h ns
    have h4 := h n
    show (L n - sOf l' n) + mu ns L l' < (L n - sOf l n) + mu ns L l
    rcases List.mem_cons.1 hm with e | e
    · subst e; omega
    · have := mu_lt (L := L) h h1 h2 ns e; omega
structure ST where
  i : Nat
  l : List (ByteArray × Value)
  ra : Bool
structure StQ (rs : List Ru) (L : ByteArray → Nat) (base : List (ByteArray × Value)) (i : Nat) (l : List (ByteArray × Value)) (ra : Bool) : Prop where
  iv : IntV l
  le : ∀ n, sOf l n ≤ L n
  mo : mu (nmP rs) L l ≤ mu (nmP rs) L base
  tr : ra = true → mu (nmP rs) L l < mu (nmP rs) L base
  fl : ra = false → l = base ∧ ∀ q x, q ∈ rs.take i → x ∈ q.b → Iq (sOf base) q.p x
structure StP (rs : List Ru) (L : ByteArray → Nat) (base : List (ByteArray × Value)) (i : Nat) (r : Ru) (j : Nat) (l : List (ByteArray × Value)) (ra : Bool) : Prop where
  iv : IntV l
  le : ∀ n, sOf l n ≤ L n
  mo : mu (nmP rs) L l ≤ mu (nmP rs) L base
  tr : ra = true → mu (nmP rs) L l < mu (nmP rs) L base
  fl : ra = false → l = base ∧ (∀ q x, q ∈ rs.take i → x ∈ q.b → Iq (sOf base) q.p x) ∧ ∀ x, x ∈ r.b.take j → Iq (sOf base) r.p x
/-- between two passes -/
structure StO (rs : List Ru) (L : ByteArray → Nat) (l : List (ByteArray × Value)) (ra : Bool) : Prop where
  iv : IntV l
  le : ∀ n, sOf l n ≤ L n
  fx : ra = false → NSol rs (sOf l)
variable {rs : List Ru} {L : ByteArray → Nat} {base l : List (ByteArray × Value)} {i j : Nat} {r : Ru} {ra : Bool}
theorem StO.start : StO rs L [] true := ⟨IntV.nil, fun n => Nat.zero_le _, fun h => by cases h⟩
theorem StO.into (h : StO rs L l ra) : StQ rs L l 0 l false := ⟨h.iv, h.le, Nat.le_refl _, fun h => (by cases h), fun _ => ⟨rfl, fun q x hq => (by cases hq)⟩⟩
theorem StQ.into (h : StQ rs L base i l ra) (r : Ru) : StP rs L base i r 0 l ra := ⟨h.iv, h.le, h.mo, h.tr, fun e => ⟨(h.fl e).1, (h.fl e).2, fun x hx => (by cases hx)⟩⟩
theorem StP.out (h : StP rs L base i r j l ra) (hr : rs[i]? = some r) (hj : j = r.b.length) : StQ rs L base (i + 1) l ra := by
  refine ⟨h.iv, h.le, h.mo, h.tr, fun e => ⟨(h.fl e).1, fun q x hq hx => ?_⟩⟩
  rcases take_mem hr hq with h1 | h1
  · exact (h.fl e).2.1 q x h1 hx
  · rw [h1] at hx ⊢; exact (h.fl e).2.2 x (by rw [take_all hj]; exact hx)
theorem StQ.out (h : StQ rs L base i l ra) (hi : i = rs.length) : StO rs L l ra := by
  refine ⟨h.iv, h.le, fun e => fun q x hq hx => ?_⟩
  rw [(h.fl e).1]
  exact (h.fl e).2 q x (by rw [take_all hi]; exact hq) hx
theorem StP.keep (h : StP rs L base i r j l ra) {x : Lt} (hx : r.b[j]? = some x) (hq : Iq (sOf l) r.p x) : StP rs L base i r (j + 1) l ra := by
  refine ⟨h.iv, h.le, h.mo, h.tr, fun e => ⟨(h.fl e).1, (h.fl e).2.1, fun y hy => ?_⟩⟩
  rcases take_mem hx hy with h1 | h1
  · exact (h.fl e).2.2 y h1
  · rw [h1, ← (h.fl e).1]; exact hq
theorem StP.raise (h : StP rs L base i r j l ra) (hr : r ∈ rs) {k : Nat} (h1 : sOf l r.p < k) (h2 : k ≤ L r.p) : StP rs L base i r (j + 1) (mput l r.p (.int .i64 (k : Int))) true := by
  have hm : ∀ n, sOf l n ≤ sOf (mput l r.p (.int .i64 (k : Int))) n := fun n => by
    rw [sO_put]
    by_cases e : n = r.p
    · rw [if_pos e, e]; omega
    · rw [if_neg e]; exact Nat.le_refl _
  have hself : sOf (mput l r.p (.int .i64 (k : Int))) r.p = k := by rw [sO_put, if_pos rfl]
  have hlt : mu (nmP rs) L (mput l r.p (.int .i64 (k : Int))) < mu (nmP rs) L l := mu_lt hm (by rw [hself]; exact h1) (by rw [hself]; exact h2) _ (mem_nmP.2 ⟨r, hr, .inl rfl⟩)
  have := h.mo
  refine ⟨h.iv.put _ _, fun n => ?_, by omega, fun _ => by omega, fun e => by cases e⟩
  rw [sO_put]
  by_cases e : n = r.p
  · rw [if_pos e, e]; exact h2
  · rw [if_neg e]; exact h.le n
theorem st_measure (h : StQ rs L base i l ra) : 2 * mu (nmP rs) L l + (if ra = true then 1 else 0) < 2 * mu (nmP rs) L base + (if true = true then 1 else 0) := by
  have := h.mo
  cases ra with
  | true => have := h.tr rfl; simp; omega
  | false => simp; omega
end strata


attribute [local irreducible] RV.E

set_option maxHeartbeats 8000000 in
theorem negc_spec (rs : List RV) (rp : Option Addr) (rc : Nat) (RE : List (Nat × Obj)) (hp : Prg rs rp rc RE) (hb : ∀ r, r ∈ (rs.map RV.ru) → r.b.length ≤ 64) : SpK Tryz.prog 33 #[.agg ⟨[.slice rp rs.length rc]⟩] (PrW rs RE) [] (fun v F' => ∃ bad, BadN (rs.map RV.ru) bad ∧ v = ngV (negP bad 0 (rs.map RV.ru)) ∧ F' = []) := by
  refine f_enter (args := [.agg ⟨[.slice rp rs.length rc]⟩]) Tryz.func33 rfl Tryz.ntmps33 rfl ?_
  intro w0 w a hpre hl hh
  have hrn := hp.len
  simp only [slotsFrom, Nat.reduceAdd] at hl
  refine c_seq ?_
  refine c_region ?_
  refine wl (w_box hl hh rfl trivial rfl rfl ?_)
  clear hl hh a w; intro k1 a w hl hh
  refine wl (wl_val hl rfl trivial (r_assign hl rfl) ?_)
  clear hl a; intro a hl
  refine wl (wl_val hl rfl trivial (r_assign hl rfl) ?_)
  clear hl a; intro a hl
  refine wl (wl_val hl rfl trivial (r_assign hl rfl) ?_)
  clear hl a; intro a hl
  refine w_nil ?_
  have hl2 := hl.add (t := 1) (hl.nil) rfl; clear hl; have hl := hl2; clear hl2
  refine then_normal ?_
  refine c_seq ?_
  refine c_region ?_
  first | refine wl (w_loadA hl hh rfl trivial agg26 rfl (by repeat (first | exact find_head | apply find_tail | apply find_skip)) (by first | (simp only [List.getElem?_cons_zero, List.getElem?_cons_succ, Value.cells, List.take_zero, List.take_succ_cons, List.take_nil, List.drop_zero, List.drop_succ_cons, List.drop_nil, List.length_cons, List.length_nil, List.cons_append, List.nil_append, List.append_nil, Nat.zero_add, Nat.add_zero, Nat.reduceAdd, Nat.reduceBEq, Nat.reduceEqDiff, Nat.ble, BEq.rfl, Bool.and_true, Bool.and_self, cond_true, beq_self_eq_true]; rfl)) (by first | rfl | (simp; done)) ?_) | refine wl (w_loadRA hl hh rfl trivial agg26 rfl hm1 (by simp) hd1 rfl ?_) | refine wl (w_loadRA hl hh rfl trivial agg26 rfl hm2 (by simp) hd2 rfl ?_)
  clear hl a; intro a hl
  refine wl (w_call hl hh rfl trivial rfl cal67 rfl (reach_spec rs rp rc RE hp hb) (by repeat (first | exact keeps_nil | apply keeps_cons (by repeat (first | exact find_head | apply find_tail | apply find_skip)) (by first  | rfl) | exact keeps_self | exact keeps_left | apply keeps_app | apply keeps_mv | apply keeps_skip)) ⟨mem_keep hh hpre.re, fun r hr => mem_keep hh (hpre.each r hr)⟩ ?_)
  clear hl hh a w; intro vc Fc a w hR hl hh
  obtain ⟨ns, rb, irs, hN, hI, hW, rfl, rfl⟩ := hR
  try simp only [List.cons_append, List.nil_append, List.append_assoc, List.append_nil] at hh
  have hB : BadN (rs.map RV.ru) (badM irs) := ⟨fun h q => relB_iff.trans (hW q h)⟩
  refine wl (wl_val hl rfl trivial (r_assign hl rfl) ?_)
  clear hl a; intro a hl
  refine w_nil ?_
  have hl2 := hl.add (t := 1) (hl.add (t := 5) (hl.nil) rfl) rfl; clear hl; have hl := hl2; clear hl2
  refine then_normal ?_
  refine c_seq ?_
  refine c_seq ?_
  refine c_region ?_
  refine wl (wl_val hl rfl trivial (r_field hl rfl fld26_0) ?_)
  clear hl a; intro a hl
  refine wl (w_load hl hh rfl trivial one24 rfl (by repeat (first | exact find_head | apply find_tail | apply find_skip)) (by first | rfl) ?_)
  clear hl a; intro a hl
  refine wl (wl_val hl rfl trivial (r_lenS hl rfl slc24) ?_)
  clear hl a; intro a hl
  refine wl (wl_val hl rfl trivial (r_move hl rfl) ?_)
  clear hl a; intro a hl
  refine w_nil ?_
  have hl2 := hl.add (t := 5) (hl.add (t := 13) (hl.add (t := 14) (hl.add (t := 15) (hl.nil) rfl) rfl) rfl) rfl; clear hl; have hl := hl2; clear hl2
  refine then_normal ?_
  refine wp_block ?_
  obtain ⟨KS0, hKS0, hk⟩ := (hl.add (t := 5) (hl.add (t := 13) (hl.add (t := 14) (hl.nil) rfl) rfl) rfl).name
  obtain ⟨HS0, hHS0, hh2⟩ := hh.name (keeps_nil)
  refine c_loop (α := Nat) (fun i2 => rs.length - i2) (fun i2 a w => (i2 ≤ rs.length ∧ negP (badM irs) 0 (rs.map RV.ru) = negP (badM irs) i2 ((rs.map RV.ru).drop i2)) ∧ Sl 46 ([(15, .int .i64 (i2 : Int))] ++ KS0) a ∧ Has _ w0 ([] ++ HS0) w) 0 ⟨⟨Nat.zero_le _, rfl⟩, hl.addE (t := 15) (hk) rfl (by first | rfl), hh2⟩ ?_
  clear hk hh2 hl hh a w
  intro i2 a w hI
  obtain ⟨⟨hi2, hJI⟩, hl, hh⟩ := hI
  subst hKS0; subst hHS0
  simp only [List.cons_append, List.nil_append, List.append_nil, List.append_assoc] at hl hh
  refine c_seq ?_
  refine c_region ?_
  refine wl (wl_val hl rfl trivial (r_lss hl rfl rfl) ?_)
  clear hl a; intro a hl
  refine w_nil ?_
  have hl2 := hl.add (t := 5) (hl.add (t := 13) (hl.add (t := 14) (hl.add (t := 15) (hl.add (t := 16) (hl.nil) rfl) rfl) rfl) rfl) rfl; clear hl; have hl := hl2; clear hl2
  refine then_normal ?_
  refine c_seq ?_
  refine c_cond hl rfl ?_ ?_
  · intro hc0
    try simp only [decide_eq_true_eq, decide_eq_false_iff_not, Bool.not_eq_true', Bool.not_eq_false', Bool.not_eq_true, Bool.not_eq_false, Bool.and_eq_true, Bool.or_eq_true, Bool.and_eq_false_iff, Bool.or_eq_false_iff, Bool.not_not, ne_eq, Int.not_lt, Int.not_le, Decidable.not_not, beq_iff_eq, bne_iff_ne] at hc0
    obtain ⟨r, hx⟩ : ∃ r, rs[i2]? = some r := ⟨_, List.getElem?_eq_getElem (by omega)⟩
    have hrm := List.mem_of_getElem? hx
    have hr := hp.ok r hrm
    have hrE := hpre.each r hrm
    have hrl := hr.len; have hra := hr.hd.len
    obtain ⟨b1, j1, hq1, hE1, hm1⟩ := row_mem hp.row (by omega) hpre.re
    rw [hq1] at hl hh
    have hd1 := fl_at c3_len hx j1
    simp only [RV.c3] at hd1
    refine wp_skip ?_
    refine then_normal ?_
    refine c_seq ?_
    refine wp_block ?_
    refine c_seq ?_
    refine c_region ?_
    refine wl (wl_val hl rfl trivial (r_move hl rfl) ?_)
    clear hl a; intro a hl
    refine wl (wl_val hl rfl trivial (r_indexS hl rfl rfl slc24 (by omega) (by omega) (by first | (simp only [Int.reduceToNat]; rfl) | exact toNat_add1 _ | exact toNat_add2 _ _ | exact toNat_emod _ _ | exact Int.toNat_natCast _ | rfl)) ?_)
    clear hl a; intro a hl
    first | refine wl (w_loadA hl hh rfl trivial agg57 rfl (by repeat (first | exact find_head | apply find_tail | apply find_skip)) (by first | (simp only [List.getElem?_cons_zero, List.getElem?_cons_succ, Value.cells, List.take_zero, List.take_succ_cons, List.take_nil, List.drop_zero, List.drop_succ_cons, List.drop_nil, List.length_cons, List.length_nil, List.cons_append, List.nil_append, List.append_nil, Nat.zero_add, Nat.add_zero, Nat.reduceAdd, Nat.reduceBEq, Nat.reduceEqDiff, Nat.ble, BEq.rfl, Bool.and_true, Bool.and_self, cond_true, beq_self_eq_true]; rfl)) (by first | rfl | (simp; done)) ?_) | refine wl (w_loadRA hl hh rfl trivial agg57 rfl hm1 (by simp) hd1 rfl ?_) | refine wl (w_loadRA hl hh rfl trivial agg57 rfl hm2 (by simp) hd2 rfl ?_)
    clear hl a; intro a hl
    refine wl (w_alloc hl hh rfl trivial zero57 rfl ?_)
    clear hl hh a w; intro k7 a w hl hh
    refine wl (wl_val hl rfl trivial (r_assign hl rfl) ?_)
    clear hl a; intro a hl
    refine wl (w_storeA hl hh trivial agg57 rfl rfl (by repeat (first | exact find_head | apply find_tail | apply find_skip)) (by first | rfl | (simp; done)) (by first | (simp; done) | (simp; omega)) (by first | rfl | (simp; done) | rfl) (by first | (simp only [setL, List.getElem?_cons_zero, List.getElem?_cons_succ, Value.cells, List.take_zero, List.take_succ_cons, List.take_nil, List.drop_zero, List.drop_succ_cons, List.drop_nil, List.length_cons, List.length_nil, List.cons_append, List.nil_append, List.append_nil, Nat.zero_add, Nat.add_zero, Nat.reduceAdd, Nat.reduceBEq, Nat.reduceEqDiff, Nat.ble, BEq.rfl, Bool.and_true, Bool.and_self, cond_true, beq_self_eq_true]; rfl)) ?_)
    clear hh w; intro w hh
    refine w_nil ?_
    have hl2 := hl.add (t := 5) (hl.add (t := 6) (hl.add (t := 7) (hl.add (t := 13) (hl.add (t := 14) (hl.add (t := 15) (hl.nil) rfl) rfl) rfl) rfl) rfl) rfl; clear hl; have hl := hl2; clear hl2
    refine then_normal ?_
    refine c_seq ?_
    refine c_region ?_
    refine wl (wl_val hl rfl trivial (r_field hl rfl fld57_1) ?_)
    clear hl a; intro a hl
    refine wl (w_load hl hh rfl trivial one55 rfl (by repeat (first | exact find_head | apply find_tail | apply find_skip)) (by first | rfl) ?_)
    clear hl a; intro a hl
    refine wl (wl_val hl rfl trivial (r_lenS hl rfl slc55) ?_)
    clear hl a; intro a hl
    refine wl (wl_val hl rfl trivial (r_move hl rfl) ?_)
    clear hl a; intro a hl
    refine w_nil ?_
    have hl2 := hl.add (t := 5) (hl.add (t := 6) (hl.add (t := 7) (hl.add (t := 13) (hl.add (t := 14) (hl.add (t := 15) (hl.add (t := 21) (hl.add (t := 22) (hl.add (t := 23) (hl.nil) rfl) rfl) rfl) rfl) rfl) rfl) rfl) rfl) rfl; clear hl; have hl := hl2; clear hl2
    refine then_normal ?_
    refine wp_block ?_
    obtain ⟨KS1, hKS1, hk⟩ := (hl.add (t := 5) (hl.add (t := 6) (hl.add (t := 7) (hl.add (t := 13) (hl.add (t := 14) (hl.add (t := 15) (hl.add (t := 21) (hl.add (t := 22) (hl.nil) rfl) rfl) rfl) rfl) rfl) rfl) rfl) rfl).name
    obtain ⟨HS1, hHS1, hh2⟩ := hh.name (keeps_nil)
    refine c_loop (α := Nat) (fun j => r.ls.length - j) (fun j a w => (j ≤ r.ls.length ∧ negB ((badM irs) r.ru.p) 0 r.ru.b = negB ((badM irs) r.ru.p) j (r.ru.b.drop j)) ∧ Sl 46 ([(23, .int .i64 (j : Int))] ++ KS1) a ∧ Has _ w0 ([] ++ HS1) w) 0 ⟨⟨Nat.zero_le _, rfl⟩, hl.addE (t := 23) (hk) rfl (by first | rfl), hh2⟩ ?_
    clear hk hh2 hl hh a w
    intro j a w hI
    obtain ⟨⟨hj, hJ⟩, hl, hh⟩ := hI
    subst hKS1; subst hHS1
    simp only [List.cons_append, List.nil_append, List.append_nil, List.append_assoc] at hl hh
    refine c_seq ?_
    refine c_region ?_
    refine wl (wl_val hl rfl trivial (r_lss hl rfl rfl) ?_)
    clear hl a; intro a hl
    refine w_nil ?_
    have hl2 := hl.add (t := 5) (hl.add (t := 6) (hl.add (t := 7) (hl.add (t := 13) (hl.add (t := 14) (hl.add (t := 15) (hl.add (t := 21) (hl.add (t := 22) (hl.add (t := 23) (hl.add (t := 24) (hl.nil) rfl) rfl) rfl) rfl) rfl) rfl) rfl) rfl) rfl) rfl; clear hl; have hl := hl2; clear hl2
    refine then_normal ?_
    refine c_seq ?_
    refine c_cond hl rfl ?_ ?_
    · intro hc1
      try simp only [decide_eq_true_eq, decide_eq_false_iff_not, Bool.not_eq_true', Bool.not_eq_false', Bool.not_eq_true, Bool.not_eq_false, Bool.and_eq_true, Bool.or_eq_true, Bool.and_eq_false_iff, Bool.or_eq_false_iff, Bool.not_not, ne_eq, Int.not_lt, Int.not_le, Decidable.not_not, beq_iff_eq, bne_iff_ne] at hc1
      obtain ⟨x, hxx⟩ : ∃ x, r.ls[j]? = some x := ⟨_, List.getElem?_eq_getElem (by omega)⟩
      have hxm := List.mem_of_getElem? hxx
      have hxo := hr.ls x hxm
      have hxE := RV.ml hrE hxm
      have hxa := hxo.ags.len
      obtain ⟨b2, j2, hq2, hE2, hm2⟩ := row_mem hr.bd (by omega) (RV.mb hrE)
      rw [hq2] at hl hh
      have hd2 := fl_at c4_len hxx j2
      simp only [LV.c4] at hd2
      refine wp_skip ?_
      refine then_normal ?_
      refine c_seq ?_
      refine wp_block ?_
      refine c_seq ?_
      refine c_region ?_
      refine wl (wl_val hl rfl trivial (r_move hl rfl) ?_)
      clear hl a; intro a hl
      refine wl (wl_val hl rfl trivial (r_indexS hl rfl rfl slc55 (by omega) (by omega) (by first | (simp only [Int.reduceToNat]; rfl) | exact toNat_add1 _ | exact toNat_add2 _ _ | exact toNat_emod _ _ | exact Int.toNat_natCast _ | rfl)) ?_)
      clear hl a; intro a hl
      first | refine wl (w_loadA hl hh rfl trivial agg48 rfl (by repeat (first | exact find_head | apply find_tail | apply find_skip)) (by first | (simp only [List.getElem?_cons_zero, List.getElem?_cons_succ, Value.cells, List.take_zero, List.take_succ_cons, List.take_nil, List.drop_zero, List.drop_succ_cons, List.drop_nil, List.length_cons, List.length_nil, List.cons_append, List.nil_append, List.append_nil, Nat.zero_add, Nat.add_zero, Nat.reduceAdd, Nat.reduceBEq, Nat.reduceEqDiff, Nat.ble, BEq.rfl, Bool.and_true, Bool.and_self, cond_true, beq_self_eq_true]; rfl)) (by first | rfl | (simp; done)) ?_) | refine wl (w_loadRA hl hh rfl trivial agg48 rfl hm1 (by simp) hd1 rfl ?_) | refine wl (w_loadRA hl hh rfl trivial agg48 rfl hm2 (by simp) hd2 rfl ?_)
      clear hl a; intro a hl
      refine wl (w_alloc hl hh rfl trivial zero48 rfl ?_)
      clear hl hh a w; intro k9 a w hl hh
      refine wl (wl_val hl rfl trivial (r_assign hl rfl) ?_)
      clear hl a; intro a hl
      refine wl (w_storeA hl hh trivial agg48 rfl rfl (by repeat (first | exact find_head | apply find_tail | apply find_skip)) (by first | rfl | (simp; done)) (by first | (simp; done) | (simp; omega)) (by first | rfl | (simp; done) | rfl) (by first | (simp only [setL, List.getElem?_cons_zero, List.getElem?_cons_succ, Value.cells, List.take_zero, List.take_succ_cons, List.take_nil, List.drop_zero, List.drop_succ_cons, List.drop_nil, List.length_cons, List.length_nil, List.cons_append, List.nil_append, List.append_nil, Nat.zero_add, Nat.add_zero, Nat.reduceAdd, Nat.reduceBEq, Nat.reduceEqDiff, Nat.ble, BEq.rfl, Bool.and_true, Bool.and_self, cond_true, beq_self_eq_true]; rfl)) ?_)
      clear hh w; intro w hh
      refine w_nil ?_
      have hl2 := hl.add (t := 5) (hl.add (t := 6) (hl.add (t := 7) (hl.add (t := 8) (hl.add (t := 9) (hl.add (t := 13) (hl.add (t := 14) (hl.add (t := 15) (hl.add (t := 21) (hl.add (t := 22) (hl.add (t := 23) (hl.nil) rfl) rfl) rfl) rfl) rfl) rfl) rfl) rfl) rfl) rfl) rfl; clear hl; have hl := hl2; clear hl2
      refine then_normal ?_
      refine c_seq ?_
      rcases Decidable.em (x.l.k = 2) with hk | hk
      ·
        obtain ⟨m, q, hqm, hqn9⟩ := hI.at_ ((hN.mem x.l.p).2 ⟨r.ru, List.mem_map.2 ⟨r, hrm, rfl⟩, .inr ⟨x.l, List.mem_map.2 ⟨x, hxm, rfl⟩, by omega, rfl⟩⟩)
        have hgA := ir_get (hI.nd hN.nd) (List.mem_of_getElem? hqm) hqn9
        have hrA := mget_bool (fun p hp => hI.tr q p (List.mem_of_getElem? hqm) hp) r.p
        have hmA : (q.b, MO kStr q.l) ∈ List.map irB irs := List.mem_map.2 ⟨q, List.mem_of_getElem? hqm, rfl⟩
        have hlA : r.p ∈ ks q.l ↔ Rel irs x.l.p r.p := by rw [← hqn9]; exact hI.rel hN.nd (List.mem_of_getElem? hqm)
        refine c_region ?_
        refine wl (wl_val hl rfl trivial (r_field hl rfl fld48_0) ?_)
        clear hl a; intro a hl
        refine wl (w_load hl hh rfl trivial one44 rfl (by repeat (first | exact find_head | apply find_tail | apply find_skip)) (by first | rfl) ?_)
        clear hl a; intro a hl
        refine wl (wl_val hl rfl trivial (r_eql hl rfl rfl) ?_)
        clear hl a; intro a hl
        rw [show decide (x.l.k = 2) = true from decide_eq_true (by omega)] at hl
        refine wl (wl_val hl rfl trivial (r_move hl rfl) ?_)
        clear hl a; intro a hl
        refine wl (wl_val hl rfl ⟨_, _, rfl, rfl, rfl⟩ (r_move hl rfl) ?_)
        clear hl a; intro a hl
        refine wl (wl_val hl rfl ⟨_, _, rfl, rfl, rfl⟩ (r_field hl rfl fld48_2) ?_)
        clear hl a; intro a hl
        refine wl (wl_val hl rfl ⟨_, _, rfl, rfl, rfl⟩ (r_field hl rfl fld46_0) ?_)
        clear hl a; intro a hl
        refine wl (w_load hl hh rfl ⟨_, _, rfl, rfl, rfl⟩ one9 rfl (by repeat (first | exact find_head | apply find_tail | apply find_skip)) (by first | rfl) ?_)
        clear hl a; intro a hl
        refine wl (w_lookup (keyStr Tryz.underlying9) Tryz.underlying145 zero147 hl hh rfl ⟨_, _, rfl, rfl, rfl⟩ rfl rfl (by repeat (first | exact find_head | apply find_tail | apply find_skip)) ?_)
        clear hl a; intro a hl
        rw [hgA] at hl
        refine wl (wl_val hl rfl ⟨_, _, rfl, rfl, rfl⟩ (r_field hl rfl fld57_0) ?_)
        clear hl a; intro a hl
        refine wl (wl_val hl rfl ⟨_, _, rfl, rfl, rfl⟩ (r_field hl rfl fld46_0) ?_)
        clear hl a; intro a hl
        refine wl (w_load hl hh rfl ⟨_, _, rfl, rfl, rfl⟩ one9 rfl (by repeat (first | exact find_head | apply find_tail | apply find_skip)) (by first | rfl) ?_)
        clear hl a; intro a hl
        refine wl (wl_val hl rfl ⟨_, _, rfl, rfl, rfl⟩ (r_lookup (k := kStr) (ak := r.p) (l := q.l) (keyStr Tryz.underlying9) Tryz.underlying147 zero4 hl rfl rfl (hh.mem _ _ (by repeat (first | exact hmA | exact List.mem_append_left _ hmA | apply List.mem_cons_of_mem | apply List.mem_append_right)))) ?_)
        clear hl a; intro a hl
        rw [hrA] at hl
        refine wl (wl_val hl rfl trivial (r_pickT hl rfl rfl) ?_)
        clear hl a; intro a hl
        refine w_nil ?_
        have hl2 := hl.add (t := 5) (hl.add (t := 6) (hl.add (t := 7) (hl.add (t := 8) (hl.add (t := 13) (hl.add (t := 14) (hl.add (t := 15) (hl.add (t := 21) (hl.add (t := 22) (hl.add (t := 23) (hl.add (t := 41) (hl.nil) rfl) rfl) rfl) rfl) rfl) rfl) rfl) rfl) rfl) rfl) rfl; clear hl; have hl := hl2; clear hl2
        refine then_normal ?_
        refine c_cond hl rfl ?_ ?_
        · intro hc2
          try simp only [decide_eq_true_eq, decide_eq_false_iff_not, Bool.not_eq_true', Bool.not_eq_false', Bool.not_eq_true, Bool.not_eq_false, Bool.and_eq_true, Bool.or_eq_true, Bool.and_eq_false_iff, Bool.or_eq_false_iff, Bool.not_not, ne_eq, Int.not_lt, Int.not_le, Decidable.not_not, beq_iff_eq, bne_iff_ne] at hc2
          refine c_seq ?_
          refine c_region ?_
          refine wl (wl_val hl rfl trivial (r_move hl rfl) ?_)
          clear hl a; intro a hl
          refine wl (wl_val hl rfl trivial (r_move hl rfl) ?_)
          clear hl a; intro a hl
          refine wl (wl_val hl rfl trivial (r_assign hl rfl) ?_)
          clear hl a; intro a hl
          refine wl (wl_val hl rfl trivial (r_assign hl rfl) ?_)
          clear hl a; intro a hl
          refine wl (wl_val hl rfl trivial (r_assign hl rfl) ?_)
          clear hl a; intro a hl
          refine w_nil ?_
          have hl2 := hl.add (t := 2) (hl.add (t := 3) (hl.add (t := 4) (hl.nil) rfl) rfl) rfl; clear hl; have hl := hl2; clear hl2
          refine then_normal ?_
          refine wp_ret ?_
          refine blk_ret ?_
          refine then_ret ?_
          refine then_ret ?_
          refine blk_ret ?_
          refine blk_ret ?_
          refine then_ret ?_
          refine then_ret ?_
          refine blk_ret ?_
          refine then_ret ?_
          refine f_ret3 (F' := []) hl hh rfl rfl rfl rfl (by repeat (first | exact keeps_nil | apply keeps_cons (by repeat (first | exact find_head | apply find_tail | apply find_skip)) (by first  | rfl) | exact keeps_self | exact keeps_left | apply keeps_app | apply keeps_mv | apply keeps_skip)) ?_
          exact ⟨(badM irs), hB, by rw [hJI, negP_hit (ru_at hx) (hJ.trans ((negB_step (lt_at hxx)).trans (if_pos ⟨by omega, relB_iff.2 (hlA.1 (by assumption))⟩)))]; rfl, rfl⟩
        · intro hc2
          try simp only [decide_eq_true_eq, decide_eq_false_iff_not, Bool.not_eq_true', Bool.not_eq_false', Bool.not_eq_true, Bool.not_eq_false, Bool.and_eq_true, Bool.or_eq_true, Bool.and_eq_false_iff, Bool.or_eq_false_iff, Bool.not_not, ne_eq, Int.not_lt, Int.not_le, Decidable.not_not, beq_iff_eq, bne_iff_ne] at hc2
          refine wp_skip ?_
          refine blk_normal ?_
          refine then_normal ?_
          refine c_region ?_
          first | refine wl (wl_val hl rfl trivial (r_add hl rfl rfl (by simp only [Fits]; omega)) ?_) | refine wl (wl_val hl rfl trivial (r_addW hl rfl rfl) ?_)
          clear hl a; intro a hl
          refine wl (wl_val hl rfl trivial (r_move hl rfl) ?_)
          clear hl a; intro a hl
          refine w_nil ?_
          have hl2 := hl.add (t := 5) (hl.add (t := 6) (hl.add (t := 7) (hl.add (t := 13) (hl.add (t := 14) (hl.add (t := 15) (hl.add (t := 21) (hl.add (t := 22) (hl.add (t := 23) (hl.nil) rfl) rfl) rfl) rfl) rfl) rfl) rfl) rfl) rfl; clear hl; have hl := hl2; clear hl2
          refine then_normal ?_
          refine ⟨j + 1, (by omega), ⟨by omega, hJ.trans ((negB_step (lt_at hxx)).trans (if_neg (by rintro ⟨h7, h8⟩; first | exact absurd h7 (by assumption) | exact absurd (hlA.2 (relB_iff.1 h8)) (by assumption))))⟩, hl.addE (t := 23) (hl.addE (t := 5) (hl.addE (t := 6) (hl.addE (t := 7) (hl.addE (t := 13) (hl.addE (t := 14) (hl.addE (t := 15) (hl.addE (t := 21) (hl.addE (t := 22) (hl.nil) rfl (by first | rfl | exact congrArg (Value.int .i64) (show (j : Int) + 1 = ((j + 1 : Nat) : Int) by omega) | (rw [hq2]))) rfl (by first | rfl | exact congrArg (Value.int .i64) (show (j : Int) + 1 = ((j + 1 : Nat) : Int) by omega) | (rw [hq2]))) rfl (by first | rfl | exact congrArg (Value.int .i64) (show (j : Int) + 1 = ((j + 1 : Nat) : Int) by omega) | (rw [hq2]))) rfl (by first | rfl | exact congrArg (Value.int .i64) (show (j : Int) + 1 = ((j + 1 : Nat) : Int) by omega) | (rw [hq2]))) rfl (by first | rfl | exact congrArg (Value.int .i64) (show (j : Int) + 1 = ((j + 1 : Nat) : Int) by omega) | (rw [hq2]))) rfl (by first | rfl | exact congrArg (Value.int .i64) (show (j : Int) + 1 = ((j + 1 : Nat) : Int) by omega) | (rw [hq2]))) rfl (by first | rfl | exact congrArg (Value.int .i64) (show (j : Int) + 1 = ((j + 1 : Nat) : Int) by omega) | (rw [hq2]))) rfl (by first | rfl | exact congrArg (Value.int .i64) (show (j : Int) + 1 = ((j + 1 : Nat) : Int) by omega) | (rw [hq2]))) rfl (by first | rfl | exact congrArg (Value.int .i64) (show (j : Int) + 1 = ((j + 1 : Nat) : Int) by omega) | (rw [hq2])), hh.keep (by repeat (first | exact keeps_nil | apply keeps_cons (by repeat (first | exact find_head | apply find_tail | apply find_skip)) (by first  | (rw [hq2]) | rfl) | exact keeps_self | exact keeps_left | apply keeps_app | apply keeps_mv | apply keeps_skip))⟩
      ·
        refine c_region ?_
        refine wl (wl_val hl rfl trivial (r_field hl rfl fld48_0) ?_)
        clear hl a; intro a hl
        refine wl (w_load hl hh rfl trivial one44 rfl (by repeat (first | exact find_head | apply find_tail | apply find_skip)) (by first | rfl) ?_)
        clear hl a; intro a hl
        refine wl (wl_val hl rfl trivial (r_eql hl rfl rfl) ?_)
        clear hl a; intro a hl
        rw [show decide (x.l.k = 2) = false from decide_eq_false (by omega)] at hl
        refine wl (wl_val hl rfl trivial (r_move hl rfl) ?_)
        clear hl a; intro a hl
        refine wl (wl_skip hl rfl ⟨_, _, rfl, rfl, rfl⟩ ?_)
        clear hl a; intro a hl
        refine wl (wl_skip hl rfl ⟨_, _, rfl, rfl, rfl⟩ ?_)
        clear hl a; intro a hl
        refine wl (wl_skip hl rfl ⟨_, _, rfl, rfl, rfl⟩ ?_)
        clear hl a; intro a hl
        refine wl (wl_skip hl rfl ⟨_, _, rfl, rfl, rfl⟩ ?_)
        clear hl a; intro a hl
        refine wl (wl_skip hl rfl ⟨_, _, rfl, rfl, rfl⟩ ?_)
        clear hl a; intro a hl
        refine wl (wl_skip hl rfl ⟨_, _, rfl, rfl, rfl⟩ ?_)
        clear hl a; intro a hl
        refine wl (wl_skip hl rfl ⟨_, _, rfl, rfl, rfl⟩ ?_)
        clear hl a; intro a hl
        refine wl (wl_skip hl rfl ⟨_, _, rfl, rfl, rfl⟩ ?_)
        clear hl a; intro a hl
        refine wl (wl_skip hl rfl ⟨_, _, rfl, rfl, rfl⟩ ?_)
        clear hl a; intro a hl
        refine wl (wl_val hl rfl trivial (r_pickF hl rfl rfl) ?_)
        clear hl a; intro a hl
        refine w_nil ?_
        have hl2 := hl.add (t := 5) (hl.add (t := 6) (hl.add (t := 7) (hl.add (t := 8) (hl.add (t := 13) (hl.add (t := 14) (hl.add (t := 15) (hl.add (t := 21) (hl.add (t := 22) (hl.add (t := 23) (hl.add (t := 41) (hl.nil) rfl) rfl) rfl) rfl) rfl) rfl) rfl) rfl) rfl) rfl) rfl; clear hl; have hl := hl2; clear hl2
        refine then_normal ?_
        refine c_condF hl rfl ?_
        refine wp_skip ?_
        refine blk_normal ?_
        refine then_normal ?_
        refine c_region ?_
        first | refine wl (wl_val hl rfl trivial (r_add hl rfl rfl (by simp only [Fits]; omega)) ?_) | refine wl (wl_val hl rfl trivial (r_addW hl rfl rfl) ?_)
        clear hl a; intro a hl
        refine wl (wl_val hl rfl trivial (r_move hl rfl) ?_)
        clear hl a; intro a hl
        refine w_nil ?_
        have hl2 := hl.add (t := 5) (hl.add (t := 6) (hl.add (t := 7) (hl.add (t := 13) (hl.add (t := 14) (hl.add (t := 15) (hl.add (t := 21) (hl.add (t := 22) (hl.add (t := 23) (hl.nil) rfl) rfl) rfl) rfl) rfl) rfl) rfl) rfl) rfl; clear hl; have hl := hl2; clear hl2
        refine then_normal ?_
        refine ⟨j + 1, (by omega), ⟨by omega, hJ.trans ((negB_step (lt_at hxx)).trans (if_neg (by rintro ⟨h7, h8⟩; first | exact absurd h7 (by assumption) | exact absurd (hlA.2 (relB_iff.1 h8)) (by assumption))))⟩, hl.addE (t := 23) (hl.addE (t := 5) (hl.addE (t := 6) (hl.addE (t := 7) (hl.addE (t := 13) (hl.addE (t := 14) (hl.addE (t := 15) (hl.addE (t := 21) (hl.addE (t := 22) (hl.nil) rfl (by first | rfl | exact congrArg (Value.int .i64) (show (j : Int) + 1 = ((j + 1 : Nat) : Int) by omega) | (rw [hq2]))) rfl (by first | rfl | exact congrArg (Value.int .i64) (show (j : Int) + 1 = ((j + 1 : Nat) : Int) by omega) | (rw [hq2]))) rfl (by first | rfl | exact congrArg (Value.int .i64) (show (j : Int) + 1 = ((j + 1 : Nat) : Int) by omega) | (rw [hq2]))) rfl (by first | rfl | exact congrArg (Value.int .i64) (show (j : Int) + 1 = ((j + 1 : Nat) : Int) by omega) | (rw [hq2]))) rfl (by first | rfl | exact congrArg (Value.int .i64) (show (j : Int) + 1 = ((j + 1 : Nat) : Int) by omega) | (rw [hq2]))) rfl (by first | rfl | exact congrArg (Value.int .i64) (show (j : Int) + 1 = ((j + 1 : Nat) : Int) by omega) | (rw [hq2]))) rfl (by first | rfl | exact congrArg (Value.int .i64) (show (j : Int) + 1 = ((j + 1 : Nat) : Int) by omega) | (rw [hq2]))) rfl (by first | rfl | exact congrArg (Value.int .i64) (show (j : Int) + 1 = ((j + 1 : Nat) : Int) by omega) | (rw [hq2]))) rfl (by first | rfl | exact congrArg (Value.int .i64) (show (j : Int) + 1 = ((j + 1 : Nat) : Int) by omega) | (rw [hq2])), hh.keep (by repeat (first | exact keeps_nil | apply keeps_cons (by repeat (first | exact find_head | apply find_tail | apply find_skip)) (by first  | (rw [hq2]) | rfl) | exact keeps_self | exact keeps_left | apply keeps_app | apply keeps_mv | apply keeps_skip))⟩
    · intro hc1
      try simp only [decide_eq_true_eq, decide_eq_false_iff_not, Bool.not_eq_true', Bool.not_eq_false', Bool.not_eq_true, Bool.not_eq_false, Bool.and_eq_true, Bool.or_eq_true, Bool.and_eq_false_iff, Bool.or_eq_false_iff, Bool.not_not, ne_eq, Int.not_lt, Int.not_le, Decidable.not_not, beq_iff_eq, bne_iff_ne] at hc1
      refine wp_exit ?_
      refine then_exit ?_
      refine then_exit ?_
      refine blk_exit ?_
      refine blk_normal ?_
      refine then_normal ?_
      refine c_region ?_
      first | refine wl (wl_val hl rfl trivial (r_add hl rfl rfl (by simp only [Fits]; omega)) ?_) | refine wl (wl_val hl rfl trivial (r_addW hl rfl rfl) ?_)
      clear hl a; intro a hl
      refine wl (wl_val hl rfl trivial (r_move hl rfl) ?_)
      clear hl a; intro a hl
      refine w_nil ?_
      have hl2 := hl.add (t := 5) (hl.add (t := 13) (hl.add (t := 14) (hl.add (t := 15) (hl.nil) rfl) rfl) rfl) rfl; clear hl; have hl := hl2; clear hl2
      refine then_normal ?_
      refine ⟨i2 + 1, (by omega), ⟨by omega, hJI.trans (negP_go (ru_at hx) (hJ.trans (negB_end (by unfold RV.ru; rw [List.length_map]; omega))))⟩, hl.addE (t := 15) (hl.addE (t := 5) (hl.addE (t := 13) (hl.addE (t := 14) (hl.nil) rfl (by first | rfl | exact congrArg (Value.int .i64) (show (i2 : Int) + 1 = ((i2 + 1 : Nat) : Int) by omega) | (rw [hq1]))) rfl (by first | rfl | exact congrArg (Value.int .i64) (show (i2 : Int) + 1 = ((i2 + 1 : Nat) : Int) by omega) | (rw [hq1]))) rfl (by first | rfl | exact congrArg (Value.int .i64) (show (i2 : Int) + 1 = ((i2 + 1 : Nat) : Int) by omega) | (rw [hq1]))) rfl (by first | rfl | exact congrArg (Value.int .i64) (show (i2 : Int) + 1 = ((i2 + 1 : Nat) : Int) by omega) | (rw [hq1])), hh.keep (by repeat (first | exact keeps_nil | apply keeps_cons (by repeat (first | exact find_head | apply find_tail | apply find_skip)) (by first  | (rw [hq1]) | rfl) | exact keeps_self | exact keeps_left | apply keeps_app | apply keeps_mv | apply keeps_skip))⟩
  · intro hc0
    try simp only [decide_eq_true_eq, decide_eq_false_iff_not, Bool.not_eq_true', Bool.not_eq_false', Bool.not_eq_true, Bool.not_eq_false, Bool.and_eq_true, Bool.or_eq_true, Bool.and_eq_false_iff, Bool.or_eq_false_iff, Bool.not_not, ne_eq, Int.not_lt, Int.not_le, Decidable.not_not, beq_iff_eq, bne_iff_ne] at hc0
    refine wp_exit ?_
    refine then_exit ?_
    refine then_exit ?_
    refine blk_exit ?_
    refine then_normal ?_
    refine c_seq ?_
    refine c_region ?_
    refine wl (wl_val hl rfl trivial (r_assign hl rfl) ?_)
    clear hl a; intro a hl
    refine wl (wl_val hl rfl trivial (r_assign hl rfl) ?_)
    clear hl a; intro a hl
    refine wl (wl_val hl rfl trivial (r_assign hl rfl) ?_)
    clear hl a; intro a hl
    refine w_nil ?_
    have hl2 := hl.add (t := 2) (hl.add (t := 3) (hl.add (t := 4) (hl.nil) rfl) rfl) rfl; clear hl; have hl := hl2; clear hl2
    refine then_normal ?_
    refine wp_ret ?_
    refine f_ret3 (F' := []) hl hh rfl rfl rfl rfl (by repeat (first | exact keeps_nil | apply keeps_cons (by repeat (first | exact find_head | apply find_tail | apply find_skip)) (by first  | rfl) | exact keeps_self | exact keeps_left | apply keeps_app | apply keeps_mv | apply keeps_skip)) ?_
    exact ⟨(badM irs), hB, by rw [hJI, negP_end (by rw [List.length_map]; omega)]; rfl, rfl⟩
end Go.Proofs.Qxb6500915aGreatDoor

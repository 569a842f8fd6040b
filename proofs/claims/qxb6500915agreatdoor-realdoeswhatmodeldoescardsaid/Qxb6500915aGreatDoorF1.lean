import Derived.Test.Qxb6500915aGreatDoorF0
import Derived.Test.Qxb6500915aGreatDoorMrg
namespace Go.Proofs.Qxb6500915aGreatDoor
open Go.Eng
set_option linter.unusedVariables false
set_option linter.unusedSimpArgs false
theorem cal68 : callable Tryz.prog 68 = true := by kernel_rfl
theorem app89 : appOk Tryz.prog 89 9 1 16 = true := by kernel_rfl
theorem zero9 : zeroOk Tryz.prog 9 (.string ⟨#[]⟩) := by unfold zeroOk; kernel_rfl
/-! ## Names -/
section names
def ks {κ : Type} (l : List (κ × Value)) : List κ := l.map Prod.fst
theorem ks_mput {κ : Type} [DecidableEq κ] (l : List (κ × Value)) (a : κ) (v : Value) : ks (mput l a v) = if a ∈ ks l then ks l else ks l ++ [a] := by
  induction l with
  | nil => rfl
  | cons p l ih =>
    unfold mput
    by_cases e : a = p.1
    · rw [if_pos e]
      show p.1 :: ks l = if a ∈ p.1 :: ks l then p.1 :: ks l else _
      rw [if_pos (by rw [e]; simp)]
    · rw [if_neg e]
      show p.1 :: ks (mput l a v) = if a ∈ p.1 :: ks l then p.1 :: ks l else p.1 :: ks l ++ [a]
      rw [ih]
      by_cases h : a ∈ ks l
      · rw [if_pos h, if_pos (List.mem_cons_of_mem _ h)]
      · rw [if_neg h, if_neg (by simp [e, h])]; rfl
theorem mget_some {κ : Type} [DecidableEq κ] {l : List (κ × Value)} {a : κ} : (mget l a).isSome = true ↔ a ∈ ks l := by
  induction l with
  | nil => simp [mget, ks]
  | cons p l ih =>
    unfold mget
    by_cases e : a = p.1
    · rw [if_pos e]; simp [ks, e]
    · rw [if_neg e, ih]; simp [ks, e]
structure KSet (l : List (ByteArray × Value)) (xs : List ByteArray) : Prop where
  nd : (ks l).Nodup
  mem : ∀ n, n ∈ ks l ↔ n ∈ xs
  len : l.length ≤ xs.length
theorem KSet.nil : KSet [] [] := ⟨List.nodup_nil, fun n => Iff.rfl, Nat.le_refl _⟩
theorem KSet.put {l : List (ByteArray × Value)} {xs : List ByteArray} (h : KSet l xs) (n : ByteArray) (v : Value) : KSet (mput l n v) (xs ++ [n]) := by
  refine ⟨?_, fun m => ?_, ?_⟩
  · rw [ks_mput]
    by_cases e : n ∈ ks l
    · rw [if_pos e]; exact h.nd
    · rw [if_neg e, List.nodup_append]
      refine ⟨h.nd, by simp, fun a ha b hb e9 => ?_⟩
      rw [List.mem_singleton] at hb
      exact e (hb ▸ e9 ▸ ha)
  · rw [ks_mput]
    by_cases e : n ∈ ks l
    · rw [if_pos e, h.mem m, List.mem_append, List.mem_singleton]
      exact ⟨.inl, fun h9 => h9.elim id fun h8 => by rw [h8]; exact (h.mem n).1 e⟩
    · rw [if_neg e, List.mem_append, List.mem_append, h.mem m]
  · have := mput_len l n v
    have := h.len
    rw [List.length_append, List.length_singleton]; omega
def nmB (ls : List Lt) : List ByteArray := ls.flatMap fun l => if l.k = 1 then [] else [l.p]
def nmR (r : Ru) : List ByteArray := [r.p] ++ nmB r.b
def nmP (rs : List Ru) : List ByteArray := rs.flatMap nmR
theorem nmB_snoc {ls : List Lt} {i : Nat} {l : Lt} (hl : ls[i]? = some l) : nmB (ls.take (i + 1)) = nmB (ls.take i) ++ (if l.k = 1 then [] else [l.p]) := by
  rw [List.take_add_one, hl]
  show nmB (ls.take i ++ [l]) = _
  unfold nmB; rw [List.flatMap_append]; simp
theorem nmP_snoc {rs : List Ru} {i : Nat} {r : Ru} (hr : rs[i]? = some r) : nmP (rs.take (i + 1)) = nmP (rs.take i) ++ nmR r := by
  rw [List.take_add_one, hr]
  show nmP (rs.take i ++ [r]) = _
  unfold nmP; rw [List.flatMap_append]; simp
theorem nmB_len : ∀ ls : List Lt, (nmB ls).length ≤ ls.length
  | [] => Nat.le_refl _
  | l :: ls => by
    have := nmB_len ls
    show ((if l.k = 1 then [] else [l.p]) ++ nmB ls).length ≤ _
    rw [List.length_append, List.length_cons]
    split <;> simp <;> omega
theorem nmP_len : ∀ rs : List Ru, (∀ r, r ∈ rs → r.b.length ≤ 64) → (nmP rs).length ≤ 65 * rs.length
  | [], _ => Nat.le_refl _
  | r :: rs, h => by
    have h1 := nmP_len rs fun q hq => h q (List.mem_cons_of_mem _ hq)
    have h2 := nmB_len r.b
    have h3 := h r (by simp)
    show (nmR r ++ nmP rs).length ≤ _
    rw [List.length_append, List.length_cons]
    unfold nmR
    rw [List.length_append, List.length_singleton]; omega
theorem mem_nmP {rs : List Ru} {n : ByteArray} : n ∈ nmP rs ↔ Occ rs n := by
  unfold nmP nmR nmB Occ
  rw [List.mem_flatMap]
  constructor
  · rintro ⟨r, hr, h⟩
    rcases List.mem_append.1 h with h | h
    · exact ⟨r, hr, .inl (List.mem_singleton.1 h).symm⟩
    · obtain ⟨l, hl, h⟩ := List.mem_flatMap.1 h
      split at h
      · cases h
      · exact ⟨r, hr, .inr ⟨l, hl, by assumption, (List.mem_singleton.1 h).symm⟩⟩
  · rintro ⟨r, hr, h⟩
    refine ⟨r, hr, List.mem_append.2 ?_⟩
    rcases h with h | ⟨l, hl, hk, h⟩
    · exact .inl (by rw [h]; simp)
    · exact .inr (List.mem_flatMap.2 ⟨l, hl, by rw [if_neg hk, h]; simp⟩)
structure NS2 where
  i : Nat
  l : List (ByteArray × Value)
structure RN5 where
  seen : List Nat
  ns : List ByteArray
  p : Option Addr
  c : Nat
  E : List (Nat × Obj)
theorem ks_inj {l : List (ByteArray × Value)} (h : (ks l).Nodup) {i j : Nat} {p q : ByteArray × Value} (hi : l[i]? = some p) (hj : l[j]? = some q) (e : p.1 = q.1) : i = j := by
  have h1 : (ks l)[i]? = some p.1 := by unfold ks; rw [List.getElem?_map, hi]; rfl
  have h2 : (ks l)[j]? = some q.1 := by unfold ks; rw [List.getElem?_map, hj]; rfl
  obtain ⟨h3, h4⟩ := List.getElem?_eq_some_iff.1 h1
  obtain ⟨h5, h6⟩ := List.getElem?_eq_some_iff.1 h2
  have h7 := List.pairwise_iff_getElem.1 h
  rcases Nat.lt_trichotomy i j with h8 | h8 | h8
  · exact absurd (h4.trans (e.trans h6.symm)) (h7 i j h3 h5 h8)
  · exact h8
  · exact absurd (h6.trans (e.symm.trans h4.symm)) (h7 j i h5 h3 h8)
structure SN (l : List (ByteArray × Value)) (seen : List Nat) (ns : List ByteArray) : Prop where
  sd : seen.Nodup
  sl : ∀ j, j ∈ seen → j < l.length
  nd : ns.Nodup
  fw : ∀ n, n ∈ ns → ∃ (j : Nat) (p : ByteArray × Value), j ∈ seen ∧ l[j]? = some p ∧ p.1 = n
  bw : ∀ (j : Nat) (p : ByteArray × Value), j ∈ seen → l[j]? = some p → p.1 ∈ ns
  len : ns.length = seen.length
theorem SN.start (l : List (ByteArray × Value)) : SN l [] [] := ⟨List.nodup_nil, fun j h => (by cases h), List.nodup_nil, fun n h => (by cases h), fun j p h => (by cases h), rfl⟩
theorem SN.next {l : List (ByteArray × Value)} {seen : List Nat} {ns : List ByteArray} (h : SN l seen ns) (hk : (ks l).Nodup) {j : Nat} {p : ByteArray × Value} (hj : l[j]? = some p) (hn : j ∉ seen) : SN l (seen ++ [j]) (ns ++ [p.1]) := by
  refine ⟨?_, fun i hi => ?_, ?_, fun n hm => ?_, fun i q hi hq => ?_, by simp [h.len]⟩
  · rw [List.nodup_append]
    refine ⟨h.sd, by simp, fun a ha b hb e => ?_⟩
    rw [List.mem_singleton] at hb
    exact hn (hb ▸ e ▸ ha)
  · rcases List.mem_append.1 hi with h1 | h1
    · exact h.sl i h1
    · rw [List.mem_singleton.1 h1]; exact (List.getElem?_eq_some_iff.1 hj).1
  · rw [List.nodup_append]
    refine ⟨h.nd, by simp, fun a ha b hb e => ?_⟩
    rw [List.mem_singleton] at hb
    obtain ⟨i, q, h1, h2, h3⟩ := h.fw a ha
    have := ks_inj hk h2 hj (by rw [h3, e, hb])
    exact hn (this ▸ h1)
  · rcases List.mem_append.1 hm with h1 | h1
    · obtain ⟨i, q, h2, h3⟩ := h.fw n h1
      exact ⟨i, q, List.mem_append_left _ h2, h3⟩
    · exact ⟨j, p, by simp, hj, (List.mem_singleton.1 h1).symm⟩
  · rcases List.mem_append.1 hi with h1 | h1
    · exact List.mem_append_left _ (h.bw i q h1 hq)
    · rw [List.mem_singleton.1 h1, hj] at hq
      injection hq with hq
      rw [← hq]; simp
theorem SN.slen {l : List (ByteArray × Value)} {seen : List Nat} {ns : List ByteArray} (h : SN l seen ns) : seen.length ≤ l.length := nodup_len _ _ h.sd h.sl
structure NmI (rs : List Ru) (ns : List ByteArray) : Prop where
  nd : ns.Nodup
  mem : ∀ n, n ∈ ns ↔ Occ rs n
  so : ns.Pairwise (fun x y => cmpS x y ≤ 0)
  len : ns.length ≤ (nmP rs).length
theorem SN.done {rs : List Ru} {l : List (ByteArray × Value)} {seen : List Nat} {ns ns' : List ByteArray} (h : SN l seen ns) (hk : KSet l (nmP rs)) (hall : ∀ j, j < l.length → j ∈ seen) (hp : ns'.Perm ns) (hs : ns'.Pairwise (fun x y => cmpS x y ≤ 0)) : NmI rs ns' := by
  refine ⟨hp.nodup_iff.2 h.nd, fun n => ?_, hs, ?_⟩
  · rw [hp.mem_iff, ← mem_nmP, ← hk.mem n]
    constructor
    · intro hm
      obtain ⟨j, p, _, h2, h3⟩ := h.fw n hm
      exact List.mem_map.2 ⟨p, List.mem_of_getElem? h2, h3⟩
    · intro hm
      obtain ⟨p, h2, h3⟩ := List.mem_map.1 hm
      obtain ⟨j, hj, h4⟩ := List.getElem_of_mem h2
      rw [← h3]
      exact h.bw j p (hall j hj) (by rw [← h4]; exact List.getElem?_eq_getElem hj)
  · have h1 := hp.length_eq
    have h2 := h.slen
    have h3 := hk.len
    have h4 := h.len
    omega
end names


attribute [local irreducible] RV.E

set_option maxHeartbeats 8000000 in
theorem names_spec (rs : List RV) (rp : Option Addr) (rc : Nat) (RE : List (Nat × Obj)) (hp : Prg rs rp rc RE) (hb : ∀ r, r ∈ (rs.map RV.ru) → r.b.length ≤ 64) : SpK Tryz.prog 35 #[.agg ⟨[.slice rp rs.length rc]⟩] (PrW rs RE) [] (fun v F' => ∃ ns p c, NmI (rs.map RV.ru) ns ∧ v = .slice p ns.length c ∧ Row (.slice p ns.length c) ns.length (fl stc ns) 1 9 F') := by
  refine f_enter (args := [.agg ⟨[.slice rp rs.length rc]⟩]) Tryz.func35 rfl Tryz.ntmps35 rfl ?_
  intro w0 w a hpre hl hh
  have hrn := hp.len
  simp only [slotsFrom, Nat.reduceAdd] at hl
  refine c_seq ?_
  refine c_region ?_
  refine wl (w_box hl hh rfl trivial rfl rfl ?_)
  clear hl hh a w; intro k1 a w hl hh
  refine wl (wl_val hl rfl trivial (r_assign hl rfl) ?_)
  clear hl a; intro a hl
  refine w_nil ?_
  have hl2 := hl.add (t := 1) (hl.nil) rfl; clear hl; have hl := hl2; clear hl2
  refine then_normal ?_
  refine c_seq ?_
  refine c_region ?_
  refine wl (w_makeMap kStr hl hh rfl trivial ?_)
  clear hl hh a w; intro k10 a w hl hh
  refine wl (wl_val hl rfl trivial (r_assign hl rfl) ?_)
  clear hl a; intro a hl
  refine w_nil ?_
  have hl2 := hl.add (t := 1) (hl.add (t := 3) (hl.nil) rfl) rfl; clear hl; have hl := hl2; clear hl2
  refine then_normal ?_
  refine c_seq ?_
  refine c_seq ?_
  refine c_region ?_
  refine wl (wl_val hl rfl trivial (r_field hl rfl fld26_0) ?_)
  clear hl a; intro a hl
  refine wl (w_load hl hh rfl trivial one24 rfl (by repeat (first | exact find_head | apply find_tail | apply find_skip)) (by first | rfl) ?_)
  clear hl a; intro a hl
  refine wl (wl_val hl rfl trivial (r_lenS hl rfl slc24) ?_)
  clear hl a; intro a hl
  refine wl (wl_val hl rfl trivial (r_move hl rfl) ?_)
  clear hl a; intro a hl
  refine w_nil ?_
  have hl2 := hl.add (t := 3) (hl.add (t := 12) (hl.add (t := 13) (hl.add (t := 14) (hl.nil) rfl) rfl) rfl) rfl; clear hl; have hl := hl2; clear hl2
  refine then_normal ?_
  refine wp_block ?_
  obtain ⟨KS0, hKS0, hk⟩ := (hl.add (t := 3) (hl.add (t := 12) (hl.add (t := 13) (hl.nil) rfl) rfl) rfl).name
  obtain ⟨HS0, hHS0, hh2⟩ := hh.name (keeps_cons (b := k10) (o' := MO kStr []) (by repeat (first | exact find_head | apply find_tail | apply find_skip)) (by first | rfl) (keeps_nil))
  refine c_loop (α := NS2) (fun z => rs.length - z.i) (fun z a w => (z.i ≤ rs.length ∧ KSet z.l (nmP ((rs.map RV.ru).take z.i))) ∧ Sl 51 ([(14, .int .i64 (z.i : Int))] ++ KS0) a ∧ Has _ w0 ([(k10, MO kStr z.l)] ++ HS0) w) ⟨0, []⟩ ⟨⟨Nat.zero_le _, KSet.nil⟩, hl.addE (t := 14) (hk) rfl (by first | rfl), hh2⟩ ?_
  clear hk hh2 hl hh a w
  intro z a w hI
  obtain ⟨⟨hi, hz⟩, hl, hh⟩ := hI
  subst hKS0; subst hHS0
  simp only [List.cons_append, List.nil_append, List.append_nil, List.append_assoc] at hl hh
  refine c_seq ?_
  refine c_region ?_
  refine wl (wl_val hl rfl trivial (r_lss hl rfl rfl) ?_)
  clear hl a; intro a hl
  refine w_nil ?_
  have hl2 := hl.add (t := 3) (hl.add (t := 12) (hl.add (t := 13) (hl.add (t := 14) (hl.add (t := 15) (hl.nil) rfl) rfl) rfl) rfl) rfl; clear hl; have hl := hl2; clear hl2
  refine then_normal ?_
  refine c_seq ?_
  refine c_cond hl rfl ?_ ?_
  · intro hc0
    try simp only [decide_eq_true_eq, decide_eq_false_iff_not, Bool.not_eq_true', Bool.not_eq_false', Bool.not_eq_true, Bool.not_eq_false, Bool.and_eq_true, Bool.or_eq_true, Bool.and_eq_false_iff, Bool.or_eq_false_iff, Bool.not_not, ne_eq, Int.not_lt, Int.not_le, Decidable.not_not, beq_iff_eq, bne_iff_ne] at hc0
    obtain ⟨r, hx⟩ : ∃ r, rs[z.i]? = some r := ⟨_, List.getElem?_eq_getElem (by omega)⟩
    have hrm := List.mem_of_getElem? hx
    have hr := hp.ok r hrm
    have hrE := hpre.each r hrm
    have hrl := hr.len; have hra := hr.hd.len
    obtain ⟨b1, j1, hq1, hE1, hm1⟩ := row_mem hp.row (by omega) hpre.re
    rw [hq1] at hl hh
    have hd1 := fl_at c3_len hx j1
    simp only [RV.c3] at hd1
    refine wp_skip ?_
    refine then_normal ?_
    refine c_seq ?_
    refine wp_block ?_
    refine c_seq ?_
    refine c_region ?_
    refine wl (wl_val hl rfl trivial (r_indexS hl rfl rfl slc24 (by omega) (by omega) (by first | (simp only [Int.reduceToNat]; rfl) | exact toNat_add1 _ | exact toNat_add2 _ _ | exact toNat_emod _ _ | exact Int.toNat_natCast _ | rfl)) ?_)
    clear hl a; intro a hl
    first | refine wl (w_loadA hl hh rfl trivial agg57 rfl (by repeat (first | exact find_head | apply find_tail | apply find_skip)) (by first | (simp only [List.getElem?_cons_zero, List.getElem?_cons_succ, Value.cells, List.take_zero, List.take_succ_cons, List.take_nil, List.drop_zero, List.drop_succ_cons, List.drop_nil, List.length_cons, List.length_nil, List.cons_append, List.nil_append, List.append_nil, Nat.zero_add, Nat.add_zero, Nat.reduceAdd, Nat.reduceBEq, Nat.reduceEqDiff, Nat.ble, BEq.rfl, Bool.and_true, Bool.and_self, cond_true, beq_self_eq_true]; rfl)) (by first | rfl | (simp; done)) ?_) | refine wl (w_loadRA hl hh rfl trivial agg57 rfl hm1 (by simp) hd1 rfl ?_) | refine wl (w_loadRA hl hh rfl trivial agg57 rfl hm2 (by simp) hd2 rfl ?_)
    clear hl a; intro a hl
    refine wl (w_alloc hl hh rfl trivial zero57 rfl ?_)
    clear hl hh a w; intro k5 a w hl hh
    refine wl (w_storeA hl hh trivial agg57 rfl rfl (by repeat (first | exact find_head | apply find_tail | apply find_skip)) (by first | rfl | (simp; done)) (by first | (simp; done) | (simp; omega)) (by first | rfl | (simp; done) | rfl) (by first | (simp only [setL, List.getElem?_cons_zero, List.getElem?_cons_succ, Value.cells, List.take_zero, List.take_succ_cons, List.take_nil, List.drop_zero, List.drop_succ_cons, List.drop_nil, List.length_cons, List.length_nil, List.cons_append, List.nil_append, List.append_nil, Nat.zero_add, Nat.add_zero, Nat.reduceAdd, Nat.reduceBEq, Nat.reduceEqDiff, Nat.ble, BEq.rfl, Bool.and_true, Bool.and_self, cond_true, beq_self_eq_true]; rfl)) ?_)
    clear hh w; intro w hh
    refine w_nil ?_
    have hl2 := hl.add (t := 3) (hl.add (t := 5) (hl.add (t := 12) (hl.add (t := 13) (hl.add (t := 14) (hl.nil) rfl) rfl) rfl) rfl) rfl; clear hl; have hl := hl2; clear hl2
    refine then_normal ?_
    refine c_seq ?_
    refine c_region ?_
    refine wl (wl_val hl rfl trivial (r_move hl rfl) ?_)
    clear hl a; intro a hl
    refine wl (wl_val hl rfl trivial (r_field hl rfl fld57_0) ?_)
    clear hl a; intro a hl
    refine wl (wl_val hl rfl trivial (r_field hl rfl fld46_0) ?_)
    clear hl a; intro a hl
    refine wl (w_load hl hh rfl trivial one9 rfl (by repeat (first | exact find_head | apply find_tail | apply find_skip)) (by first | rfl) ?_)
    clear hl a; intro a hl
    refine wl (w_mapUpdate (keyStr Tryz.underlying9) Tryz.underlying147 hl hh trivial rfl rfl rfl (by repeat (first | exact find_head | apply find_tail | apply find_skip)) ?_)
    clear hh w; intro w hh
    refine w_nil ?_
    have hl2 := hl.add (t := 3) (hl.add (t := 5) (hl.add (t := 12) (hl.add (t := 13) (hl.add (t := 14) (hl.nil) rfl) rfl) rfl) rfl) rfl; clear hl; have hl := hl2; clear hl2
    refine then_normal ?_
    refine c_seq ?_
    refine c_region ?_
    refine wl (wl_val hl rfl trivial (r_field hl rfl fld57_1) ?_)
    clear hl a; intro a hl
    refine wl (w_load hl hh rfl trivial one55 rfl (by repeat (first | exact find_head | apply find_tail | apply find_skip)) (by first | rfl) ?_)
    clear hl a; intro a hl
    refine wl (wl_val hl rfl trivial (r_lenS hl rfl slc55) ?_)
    clear hl a; intro a hl
    refine wl (wl_val hl rfl trivial (r_move hl rfl) ?_)
    clear hl a; intro a hl
    refine w_nil ?_
    have hl2 := hl.add (t := 3) (hl.add (t := 12) (hl.add (t := 13) (hl.add (t := 14) (hl.add (t := 23) (hl.add (t := 24) (hl.add (t := 25) (hl.nil) rfl) rfl) rfl) rfl) rfl) rfl) rfl; clear hl; have hl := hl2; clear hl2
    refine then_normal ?_
    refine wp_block ?_
    obtain ⟨KS1, hKS1, hk⟩ := (hl.add (t := 3) (hl.add (t := 12) (hl.add (t := 13) (hl.add (t := 14) (hl.add (t := 23) (hl.add (t := 24) (hl.nil) rfl) rfl) rfl) rfl) rfl) rfl).name
    obtain ⟨HS1, hHS1, hh2⟩ := hh.name (keeps_cons (b := k10) (o' := MO kStr (mput z.l r.p (.bool true))) (by repeat (first | exact find_head | apply find_tail | apply find_skip)) (by first | rfl) (keeps_nil))
    refine c_loop (α := NS2) (fun u => r.ls.length - u.i) (fun u a w => (u.i ≤ r.ls.length ∧ KSet u.l (nmP ((rs.map RV.ru).take z.i) ++ ([r.p] ++ nmB ((r.ls.map LV.l).take u.i)))) ∧ Sl 51 ([(25, .int .i64 (u.i : Int))] ++ KS1) a ∧ Has _ w0 ([(k10, MO kStr u.l)] ++ HS1) w) ⟨0, mput z.l r.p (.bool true)⟩ ⟨⟨Nat.zero_le _, hz.put _ _⟩, hl.addE (t := 25) (hk) rfl (by first | rfl), hh2⟩ ?_
    clear hk hh2 hl hh a w
    intro u a w hI
    obtain ⟨⟨hui, hu⟩, hl, hh⟩ := hI
    subst hKS1; subst hHS1
    simp only [List.cons_append, List.nil_append, List.append_nil, List.append_assoc] at hl hh
    refine c_seq ?_
    refine c_region ?_
    refine wl (wl_val hl rfl trivial (r_lss hl rfl rfl) ?_)
    clear hl a; intro a hl
    refine w_nil ?_
    have hl2 := hl.add (t := 3) (hl.add (t := 12) (hl.add (t := 13) (hl.add (t := 14) (hl.add (t := 23) (hl.add (t := 24) (hl.add (t := 25) (hl.add (t := 26) (hl.nil) rfl) rfl) rfl) rfl) rfl) rfl) rfl) rfl; clear hl; have hl := hl2; clear hl2
    refine then_normal ?_
    refine c_seq ?_
    refine c_cond hl rfl ?_ ?_
    · intro hc1
      try simp only [decide_eq_true_eq, decide_eq_false_iff_not, Bool.not_eq_true', Bool.not_eq_false', Bool.not_eq_true, Bool.not_eq_false, Bool.and_eq_true, Bool.or_eq_true, Bool.and_eq_false_iff, Bool.or_eq_false_iff, Bool.not_not, ne_eq, Int.not_lt, Int.not_le, Decidable.not_not, beq_iff_eq, bne_iff_ne] at hc1
      obtain ⟨x, hxx⟩ : ∃ x, r.ls[u.i]? = some x := ⟨_, List.getElem?_eq_getElem (by omega)⟩
      have hxm := List.mem_of_getElem? hxx
      have hxo := hr.ls x hxm
      have hxE := RV.ml hrE hxm
      have hxa := hxo.ags.len
      obtain ⟨b2, j2, hq2, hE2, hm2⟩ := row_mem hr.bd (by omega) (RV.mb hrE)
      rw [hq2] at hl hh
      have hd2 := fl_at c4_len hxx j2
      simp only [LV.c4] at hd2
      refine wp_skip ?_
      refine then_normal ?_
      refine c_seq ?_
      refine wp_block ?_
      refine c_seq ?_
      refine c_region ?_
      refine wl (wl_val hl rfl trivial (r_indexS hl rfl rfl slc55 (by omega) (by omega) (by first | (simp only [Int.reduceToNat]; rfl) | exact toNat_add1 _ | exact toNat_add2 _ _ | exact toNat_emod _ _ | exact Int.toNat_natCast _ | rfl)) ?_)
      clear hl a; intro a hl
      first | refine wl (w_loadA hl hh rfl trivial agg48 rfl (by repeat (first | exact find_head | apply find_tail | apply find_skip)) (by first | (simp only [List.getElem?_cons_zero, List.getElem?_cons_succ, Value.cells, List.take_zero, List.take_succ_cons, List.take_nil, List.drop_zero, List.drop_succ_cons, List.drop_nil, List.length_cons, List.length_nil, List.cons_append, List.nil_append, List.append_nil, Nat.zero_add, Nat.add_zero, Nat.reduceAdd, Nat.reduceBEq, Nat.reduceEqDiff, Nat.ble, BEq.rfl, Bool.and_true, Bool.and_self, cond_true, beq_self_eq_true]; rfl)) (by first | rfl | (simp; done)) ?_) | refine wl (w_loadRA hl hh rfl trivial agg48 rfl hm1 (by simp) hd1 rfl ?_) | refine wl (w_loadRA hl hh rfl trivial agg48 rfl hm2 (by simp) hd2 rfl ?_)
      clear hl a; intro a hl
      refine wl (w_alloc hl hh rfl trivial zero48 rfl ?_)
      clear hl hh a w; intro k7 a w hl hh
      refine wl (w_storeA hl hh trivial agg48 rfl rfl (by repeat (first | exact find_head | apply find_tail | apply find_skip)) (by first | rfl | (simp; done)) (by first | (simp; done) | (simp; omega)) (by first | rfl | (simp; done) | rfl) (by first | (simp only [setL, List.getElem?_cons_zero, List.getElem?_cons_succ, Value.cells, List.take_zero, List.take_succ_cons, List.take_nil, List.drop_zero, List.drop_succ_cons, List.drop_nil, List.length_cons, List.length_nil, List.cons_append, List.nil_append, List.append_nil, Nat.zero_add, Nat.add_zero, Nat.reduceAdd, Nat.reduceBEq, Nat.reduceEqDiff, Nat.ble, BEq.rfl, Bool.and_true, Bool.and_self, cond_true, beq_self_eq_true]; rfl)) ?_)
      clear hh w; intro w hh
      refine w_nil ?_
      have hl2 := hl.add (t := 3) (hl.add (t := 7) (hl.add (t := 12) (hl.add (t := 13) (hl.add (t := 14) (hl.add (t := 23) (hl.add (t := 24) (hl.add (t := 25) (hl.nil) rfl) rfl) rfl) rfl) rfl) rfl) rfl) rfl; clear hl; have hl := hl2; clear hl2
      refine then_normal ?_
      refine c_seq ?_
      refine c_region ?_
      refine wl (wl_val hl rfl trivial (r_field hl rfl fld48_0) ?_)
      clear hl a; intro a hl
      refine wl (w_load hl hh rfl trivial one44 rfl (by repeat (first | exact find_head | apply find_tail | apply find_skip)) (by first | rfl) ?_)
      clear hl a; intro a hl
      refine wl (wl_val hl rfl trivial (r_neq hl rfl rfl) ?_)
      clear hl a; intro a hl
      refine w_nil ?_
      have hl2 := hl.add (t := 3) (hl.add (t := 7) (hl.add (t := 12) (hl.add (t := 13) (hl.add (t := 14) (hl.add (t := 23) (hl.add (t := 24) (hl.add (t := 25) (hl.add (t := 31) (hl.nil) rfl) rfl) rfl) rfl) rfl) rfl) rfl) rfl) rfl; clear hl; have hl := hl2; clear hl2
      refine then_normal ?_
      refine c_cond hl rfl ?_ ?_
      · intro hc2
        try simp only [decide_eq_true_eq, decide_eq_false_iff_not, Bool.not_eq_true', Bool.not_eq_false', Bool.not_eq_true, Bool.not_eq_false, Bool.and_eq_true, Bool.or_eq_true, Bool.and_eq_false_iff, Bool.or_eq_false_iff, Bool.not_not, ne_eq, Int.not_lt, Int.not_le, Decidable.not_not, beq_iff_eq, bne_iff_ne] at hc2
        refine c_region ?_
        refine wl (wl_val hl rfl trivial (r_move hl rfl) ?_)
        clear hl a; intro a hl
        refine wl (wl_val hl rfl trivial (r_field hl rfl fld48_2) ?_)
        clear hl a; intro a hl
        refine wl (wl_val hl rfl trivial (r_field hl rfl fld46_0) ?_)
        clear hl a; intro a hl
        refine wl (w_load hl hh rfl trivial one9 rfl (by repeat (first | exact find_head | apply find_tail | apply find_skip)) (by first | rfl) ?_)
        clear hl a; intro a hl
        refine wl (w_mapUpdate (keyStr Tryz.underlying9) Tryz.underlying147 hl hh trivial rfl rfl rfl (by repeat (first | exact find_head | apply find_tail | apply find_skip)) ?_)
        clear hh w; intro w hh
        refine w_nil ?_
        have hl2 := hl.add (t := 3) (hl.add (t := 12) (hl.add (t := 13) (hl.add (t := 14) (hl.add (t := 23) (hl.add (t := 24) (hl.add (t := 25) (hl.nil) rfl) rfl) rfl) rfl) rfl) rfl) rfl; clear hl; have hl := hl2; clear hl2
        refine blk_normal ?_
        refine then_normal ?_
        refine c_region ?_
        first | refine wl (wl_val hl rfl trivial (r_add hl rfl rfl (by simp only [Fits]; omega)) ?_) | refine wl (wl_val hl rfl trivial (r_addW hl rfl rfl) ?_)
        clear hl a; intro a hl
        refine wl (wl_val hl rfl trivial (r_move hl rfl) ?_)
        clear hl a; intro a hl
        refine w_nil ?_
        have hl2 := hl.add (t := 3) (hl.add (t := 12) (hl.add (t := 13) (hl.add (t := 14) (hl.add (t := 23) (hl.add (t := 24) (hl.add (t := 25) (hl.nil) rfl) rfl) rfl) rfl) rfl) rfl) rfl; clear hl; have hl := hl2; clear hl2
        refine then_normal ?_
        refine ⟨⟨u.i + 1, mput u.l x.l.p (.bool true)⟩, (by simp only; omega), ⟨by simp only; omega, by rw [nmB_snoc (lt_at hxx), if_neg hc2, ← List.append_assoc, ← List.append_assoc]; rw [← List.append_assoc] at hu; exact hu.put _ _⟩, hl.addE (t := 25) (hl.addE (t := 3) (hl.addE (t := 12) (hl.addE (t := 13) (hl.addE (t := 14) (hl.addE (t := 23) (hl.addE (t := 24) (hl.nil) rfl (by first | rfl | exact congrArg (Value.int .i64) (show (u.i : Int) + 1 = ((u.i + 1 : Nat) : Int) by omega) | (rw [hq2]))) rfl (by first | rfl | exact congrArg (Value.int .i64) (show (u.i : Int) + 1 = ((u.i + 1 : Nat) : Int) by omega) | (rw [hq2]))) rfl (by first | rfl | exact congrArg (Value.int .i64) (show (u.i : Int) + 1 = ((u.i + 1 : Nat) : Int) by omega) | (rw [hq2]))) rfl (by first | rfl | exact congrArg (Value.int .i64) (show (u.i : Int) + 1 = ((u.i + 1 : Nat) : Int) by omega) | (rw [hq2]))) rfl (by first | rfl | exact congrArg (Value.int .i64) (show (u.i : Int) + 1 = ((u.i + 1 : Nat) : Int) by omega) | (rw [hq2]))) rfl (by first | rfl | exact congrArg (Value.int .i64) (show (u.i : Int) + 1 = ((u.i + 1 : Nat) : Int) by omega) | (rw [hq2]))) rfl (by first | rfl | exact congrArg (Value.int .i64) (show (u.i : Int) + 1 = ((u.i + 1 : Nat) : Int) by omega) | (rw [hq2])), hh.keep (by repeat (first | exact keeps_nil | apply keeps_cons (by repeat (first | exact find_head | apply find_tail | apply find_skip)) (by first  | (rw [hq2]) | rfl) | exact keeps_self | exact keeps_left | apply keeps_app | apply keeps_mv | apply keeps_skip))⟩
      · intro hc2
        try simp only [decide_eq_true_eq, decide_eq_false_iff_not, Bool.not_eq_true', Bool.not_eq_false', Bool.not_eq_true, Bool.not_eq_false, Bool.and_eq_true, Bool.or_eq_true, Bool.and_eq_false_iff, Bool.or_eq_false_iff, Bool.not_not, ne_eq, Int.not_lt, Int.not_le, Decidable.not_not, beq_iff_eq, bne_iff_ne] at hc2
        refine wp_skip ?_
        refine blk_normal ?_
        refine then_normal ?_
        refine c_region ?_
        first | refine wl (wl_val hl rfl trivial (r_add hl rfl rfl (by simp only [Fits]; omega)) ?_) | refine wl (wl_val hl rfl trivial (r_addW hl rfl rfl) ?_)
        clear hl a; intro a hl
        refine wl (wl_val hl rfl trivial (r_move hl rfl) ?_)
        clear hl a; intro a hl
        refine w_nil ?_
        have hl2 := hl.add (t := 3) (hl.add (t := 12) (hl.add (t := 13) (hl.add (t := 14) (hl.add (t := 23) (hl.add (t := 24) (hl.add (t := 25) (hl.nil) rfl) rfl) rfl) rfl) rfl) rfl) rfl; clear hl; have hl := hl2; clear hl2
        refine then_normal ?_
        refine ⟨⟨u.i + 1, u.l⟩, (by simp only; omega), ⟨by simp only; omega, by rw [nmB_snoc (lt_at hxx), if_pos hc2, List.append_nil]; exact hu⟩, hl.addE (t := 25) (hl.addE (t := 3) (hl.addE (t := 12) (hl.addE (t := 13) (hl.addE (t := 14) (hl.addE (t := 23) (hl.addE (t := 24) (hl.nil) rfl (by first | rfl | exact congrArg (Value.int .i64) (show (u.i : Int) + 1 = ((u.i + 1 : Nat) : Int) by omega) | (rw [hq2]))) rfl (by first | rfl | exact congrArg (Value.int .i64) (show (u.i : Int) + 1 = ((u.i + 1 : Nat) : Int) by omega) | (rw [hq2]))) rfl (by first | rfl | exact congrArg (Value.int .i64) (show (u.i : Int) + 1 = ((u.i + 1 : Nat) : Int) by omega) | (rw [hq2]))) rfl (by first | rfl | exact congrArg (Value.int .i64) (show (u.i : Int) + 1 = ((u.i + 1 : Nat) : Int) by omega) | (rw [hq2]))) rfl (by first | rfl | exact congrArg (Value.int .i64) (show (u.i : Int) + 1 = ((u.i + 1 : Nat) : Int) by omega) | (rw [hq2]))) rfl (by first | rfl | exact congrArg (Value.int .i64) (show (u.i : Int) + 1 = ((u.i + 1 : Nat) : Int) by omega) | (rw [hq2]))) rfl (by first | rfl | exact congrArg (Value.int .i64) (show (u.i : Int) + 1 = ((u.i + 1 : Nat) : Int) by omega) | (rw [hq2])), hh.keep (by repeat (first | exact keeps_nil | apply keeps_cons (by repeat (first | exact find_head | apply find_tail | apply find_skip)) (by first  | (rw [hq2]) | rfl) | exact keeps_self | exact keeps_left | apply keeps_app | apply keeps_mv | apply keeps_skip))⟩
    · intro hc1
      try simp only [decide_eq_true_eq, decide_eq_false_iff_not, Bool.not_eq_true', Bool.not_eq_false', Bool.not_eq_true, Bool.not_eq_false, Bool.and_eq_true, Bool.or_eq_true, Bool.and_eq_false_iff, Bool.or_eq_false_iff, Bool.not_not, ne_eq, Int.not_lt, Int.not_le, Decidable.not_not, beq_iff_eq, bne_iff_ne] at hc1
      have hue : u.i = r.ls.length := by omega
      refine wp_exit ?_
      refine then_exit ?_
      refine then_exit ?_
      refine blk_exit ?_
      refine blk_normal ?_
      refine then_normal ?_
      refine c_region ?_
      first | refine wl (wl_val hl rfl trivial (r_add hl rfl rfl (by simp only [Fits]; omega)) ?_) | refine wl (wl_val hl rfl trivial (r_addW hl rfl rfl) ?_)
      clear hl a; intro a hl
      refine wl (wl_val hl rfl trivial (r_move hl rfl) ?_)
      clear hl a; intro a hl
      refine w_nil ?_
      have hl2 := hl.add (t := 3) (hl.add (t := 12) (hl.add (t := 13) (hl.add (t := 14) (hl.nil) rfl) rfl) rfl) rfl; clear hl; have hl := hl2; clear hl2
      refine then_normal ?_
      refine ⟨⟨z.i + 1, u.l⟩, (by simp only; omega), ⟨by simp only; omega, by rw [nmP_snoc (ru_at hx)]; rw [hue, take_all (l := r.ls.map LV.l) (by rw [List.length_map])] at hu; exact hu⟩, hl.addE (t := 14) (hl.addE (t := 3) (hl.addE (t := 12) (hl.addE (t := 13) (hl.nil) rfl (by first | rfl | exact congrArg (Value.int .i64) (show (z.i : Int) + 1 = ((z.i + 1 : Nat) : Int) by omega) | (rw [hq1]))) rfl (by first | rfl | exact congrArg (Value.int .i64) (show (z.i : Int) + 1 = ((z.i + 1 : Nat) : Int) by omega) | (rw [hq1]))) rfl (by first | rfl | exact congrArg (Value.int .i64) (show (z.i : Int) + 1 = ((z.i + 1 : Nat) : Int) by omega) | (rw [hq1]))) rfl (by first | rfl | exact congrArg (Value.int .i64) (show (z.i : Int) + 1 = ((z.i + 1 : Nat) : Int) by omega) | (rw [hq1])), hh.keep (by repeat (first | exact keeps_nil | apply keeps_cons (by repeat (first | exact find_head | apply find_tail | apply find_skip)) (by first  | (rw [hq1]) | rfl) | exact keeps_self | exact keeps_left | apply keeps_app | apply keeps_mv | apply keeps_skip))⟩
  · intro hc0
    try simp only [decide_eq_true_eq, decide_eq_false_iff_not, Bool.not_eq_true', Bool.not_eq_false', Bool.not_eq_true, Bool.not_eq_false, Bool.and_eq_true, Bool.or_eq_true, Bool.and_eq_false_iff, Bool.or_eq_false_iff, Bool.not_not, ne_eq, Int.not_lt, Int.not_le, Decidable.not_not, beq_iff_eq, bne_iff_ne] at hc0
    have hie : z.i = rs.length := by omega
    rw [hie, take_all (l := (rs.map RV.ru)) (by rw [List.length_map])] at hz
    have hnl := nmP_len (rs.map RV.ru) hb
    rw [List.length_map] at hnl
    refine wp_exit ?_
    refine then_exit ?_
    refine then_exit ?_
    refine blk_exit ?_
    refine then_normal ?_
    refine c_seq ?_
    refine c_region ?_
    refine wl (wl_val hl rfl trivial (r_assign hl rfl) ?_)
    clear hl a; intro a hl
    refine w_nil ?_
    have hl2 := hl.add (t := 3) (hl.add (t := 8) (hl.nil) rfl) rfl; clear hl; have hl := hl2; clear hl2
    refine then_normal ?_
    refine c_seq ?_
    refine c_seq ?_
    refine c_region ?_
    refine wl (wl_val hl rfl trivial (r_move hl rfl) ?_)
    clear hl a; intro a hl
    refine wl (w_range Tryz.underlying147 hl hh rfl trivial rfl (by repeat (first | exact find_head | apply find_tail | apply find_skip)) ?_)
    clear hl hh a w; intro k39 a w hl hh
    refine w_nil ?_
    have hl2 := hl.add (t := 8) (hl.add (t := 39) (hl.nil) rfl) rfl; clear hl; have hl := hl2; clear hl2
    refine then_normal ?_
    refine wp_block ?_
    obtain ⟨KS2, hKS2, hk⟩ := (hl.add (t := 39) (hl.nil) rfl).name
    obtain ⟨HS2, hHS2, hh2⟩ := hh.nameT (A := [(k39, IT k10 z.l.length [])]) (U := []) (keeps_cons (b := k39) (o' := IT k10 z.l.length []) (by repeat (first | exact find_head | apply find_tail | apply find_skip)) (by first | rfl) ((by repeat (first | exact keeps_nil | exact keeps_self | exact keeps_left | apply keeps_app | apply keeps_mv | apply keeps_skip))))
    refine c_loop (α := RN5) (fun y => z.l.length - y.seen.length) (fun y a w => (SN z.l y.seen y.ns ∧ Row (.slice y.p y.ns.length y.c) y.ns.length (fl stc y.ns) 1 9 y.E) ∧ Sl 51 ([(8, .slice y.p y.ns.length y.c)] ++ KS2) a ∧ Has _ w0 ([(k39, IT k10 z.l.length y.seen)] ++ (HS2 ++ y.E)) w) ⟨[], [], none, 0, []⟩ ⟨⟨SN.start _, Row.nil _ _⟩, hl.addE (t := 8) (hk) rfl (by first | rfl), hh2⟩ ?_
    clear hk hh2 hl hh a w
    intro y a w hI
    obtain ⟨⟨hS, hR5⟩, hl, hh⟩ := hI
    subst hKS2; subst hHS2
    simp only [List.cons_append, List.nil_append, List.append_nil, List.append_assoc] at hl hh
    have hsl := hS.slen; have hsn := hS.len; have hzl := hz.len
    refine c_seq ?_
    refine c_region ?_
    refine wl (w_next hl hh rfl trivial rfl (by repeat (first | exact find_head | apply find_tail | apply find_skip)) (by repeat (first | exact find_head | apply find_tail | apply find_skip)) ?_ ?_)
    ·
      intro hall; clear hl a; intro a hl
      refine wl (wl_val hl rfl trivial (r_extract hl rfl (by simp only [List.getElem?_toArray, List.getElem?_cons_zero, List.getElem?_cons_succ]; rfl)) ?_)
      clear hl a; intro a hl
      refine w_nil ?_
      have hl2 := hl.add (t := 8) (hl.add (t := 39) (hl.add (t := 41) (hl.nil) rfl) rfl) rfl; clear hl; have hl := hl2; clear hl2
      refine then_normal ?_
      refine c_seq ?_
      refine c_condF hl rfl ?_
      refine wp_exit ?_
      refine then_exit ?_
      refine then_exit ?_
      refine blk_exit ?_
      refine then_normal ?_
      refine c_seq ?_
      refine c_region ?_
      refine wl (wl_val hl rfl trivial (r_move hl rfl) ?_)
      clear hl a; intro a hl
      refine wl (w_call hl hh rfl trivial rfl cal68 rfl (strs_spec y.ns y.p y.c y.E hR5 (by omega)) (by repeat (first | exact keeps_nil | apply keeps_cons (by repeat (first | exact find_head | apply find_tail | apply find_skip)) (by first  | rfl) | exact keeps_self | exact keeps_left | apply keeps_app | apply keeps_mv | apply keeps_skip)) trivial ?_)
      clear hl hh a w; intro vc Fc a w hR hl hh
      obtain ⟨rfl, ns, hp9, hs9, hR9⟩ := hR
      try simp only [List.cons_append, List.nil_append, List.append_assoc, List.append_nil] at hh
      generalize Fc = Eq at hh hR9
      rw [← hp9.length_eq] at hl
      refine w_nil ?_
      have hl2 := hl.add (t := 8) (hl.nil) rfl; clear hl; have hl := hl2; clear hl2
      refine then_normal ?_
      refine c_seq ?_
      refine c_region ?_
      refine wl (wl_val hl rfl trivial (r_move hl rfl) ?_)
      clear hl a; intro a hl
      refine wl (wl_val hl rfl trivial (r_assign hl rfl) ?_)
      clear hl a; intro a hl
      refine w_nil ?_
      have hl2 := hl.add (t := 2) (hl.nil) rfl; clear hl; have hl := hl2; clear hl2
      refine then_normal ?_
      refine wp_ret ?_
      refine f_ret1 (F' := Eq) hl hh rfl rfl (by repeat (first | exact keeps_nil | apply keeps_cons (by repeat (first | exact find_head | apply find_tail | apply find_skip)) (by first  | rfl) | exact keeps_self | exact keeps_left | apply keeps_app | apply keeps_mv | apply keeps_skip)) ?_
      exact ⟨ns, y.p, y.c, hS.done hz hall hp9 hs9, rfl, hR9⟩
    ·
      intro j40 p40 hjn40 hn40; clear hl hh a w; intro a w hl hh
      have hS2 := hS.next hz.nd hjn40 hn40
      refine wl (wl_val hl rfl trivial (r_extract hl rfl (by simp only [List.getElem?_toArray, List.getElem?_cons_zero, List.getElem?_cons_succ]; rfl)) ?_)
      clear hl a; intro a hl
      refine w_nil ?_
      have hl2 := hl.add (t := 8) (hl.add (t := 39) (hl.add (t := 41) (hl.nil) rfl) rfl) rfl; clear hl; have hl := hl2; clear hl2
      refine then_normal ?_
      refine c_seq ?_
      refine c_condT hl rfl ?_
      refine wp_skip ?_
      refine then_normal ?_
      refine wp_block ?_
      refine c_seq ?_
      refine c_region ?_
      refine wl (w_entry hjn40 hl hh rfl trivial rfl (by repeat (first | exact find_head | apply find_tail | apply find_skip)) (by repeat (first | exact find_head | apply find_tail | apply find_skip)) ?_)
      clear hl a; intro a hl
      refine wl (wl_val hl rfl trivial (r_extract hl rfl (by simp only [List.getElem?_toArray, List.getElem?_cons_zero, List.getElem?_cons_succ]; rfl)) ?_)
      clear hl a; intro a hl
      refine wl (wl_val hl rfl trivial (r_assign hl rfl) ?_)
      clear hl a; intro a hl
      refine w_nil ?_
      have hl2 := hl.add (t := 8) (hl.add (t := 9) (hl.add (t := 39) (hl.nil) rfl) rfl) rfl; clear hl; have hl := hl2; clear hl2
      refine then_normal ?_
      refine c_region ?_
      refine wl (wl_val hl rfl trivial (r_move hl rfl) ?_)
      clear hl a; intro a hl
      refine wl (wl_val hl rfl trivial (r_move hl rfl) ?_)
      clear hl a; intro a hl
      refine wl (w_buildSlice hl hh rfl trivial app89 zero9 rfl rfl rfl rfl rfl (by simp only [fillL, arrPl, List.range_succ, List.range_zero, List.map_cons, List.map_nil, List.map_append, List.nil_append, List.replicate_succ, List.replicate_zero, List.flatten_cons, List.flatten_nil, Nat.zero_mul, Nat.mul_one, Nat.one_mul, Nat.reduceMul, setL, List.getElem?_cons_zero, List.getElem?_cons_succ, Value.cells, List.take_zero, List.take_succ_cons, List.take_nil, List.drop_zero, List.drop_succ_cons, List.drop_nil, List.length_cons, List.length_nil, List.cons_append, List.nil_append, List.append_nil, Nat.zero_add, Nat.add_zero, Nat.reduceAdd, Nat.reduceBEq, Nat.reduceEqDiff, Nat.ble, BEq.rfl, Bool.and_true, Bool.and_self, cond_true, beq_self_eq_true]; rfl) ?_)
      clear hl hh a w; intro k46 a w hl hh
      refine wl (w_append (news := [.string p40.1]) hl hh rfl trivial app89 rfl rfl rfl hR5 (by repeat (first | exact keeps_nil | apply keeps_cons (by repeat (first | exact find_head | apply find_tail | apply find_skip)) (by first  | rfl) | exact keeps_self | exact keeps_left | apply keeps_app | apply keeps_mv | apply keeps_skip)) (hh.mem _ _ (Find.mem (by repeat (first | exact find_head | apply find_tail | apply find_skip)))) rfl rfl rfl (by omega) (by omega) (by omega) (by decide) ?_)
      clear hl hh a w; intro rv2 E2 a w hR2 hl hh
      have hh3 := hh.comm; clear hh; have hh := hh3; clear hh3
      try simp only [List.cons_append, List.nil_append, List.append_assoc, List.append_nil] at hh
      refine wl (wl_val hl rfl trivial (r_assign hl rfl) ?_)
      clear hl a; intro a hl
      refine w_nil ?_
      have hl2 := hl.add (t := 8) (hl.add (t := 39) (hl.nil) rfl) rfl; clear hl; have hl := hl2; clear hl2
      obtain ⟨p9, c9, hv9⟩ := row_val hR2
      subst hv9
      refine blk_normal ?_
      refine then_normal ?_
      refine ⟨⟨y.seen ++ [j40], y.ns ++ [p40.1], p9, c9, E2⟩, (by have := hS2.slen; rw [List.length_append] at this; simp only [List.length_append, List.length_cons, List.length_nil] at this ⊢; omega), ⟨hS2, row_snoc hR2⟩, hl.addE (t := 8) (hl.addE (t := 39) (hl.nil) rfl (by first | rfl | (simp [List.length_append]; done))) rfl (by first | rfl | (simp [List.length_append]; done)), hh.keep (by repeat (first | exact keeps_nil | apply keeps_cons (by repeat (first | exact find_head | apply find_tail | apply find_skip)) (by first  | rfl) | exact keeps_self | exact keeps_left | apply keeps_app | apply keeps_mv | apply keeps_skip))⟩
end Go.Proofs.Qxb6500915aGreatDoor

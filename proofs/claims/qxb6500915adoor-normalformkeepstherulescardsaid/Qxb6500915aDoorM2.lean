import Derived.Test.Qxb6500915aDoorM1
namespace Go.Proofs.Qxb6500915aDoor
open Go.Eng
set_option linter.unusedVariables false
set_option linter.unusedSimpArgs false

/-! ## the search for a match, step by step -/
theorem ord_spec : ∀ n : Nat, n ≤ 5 → Sp Tryd.prog 56 #[.int .i64 (n : Int)] [] (fun v F' => ∃ (os : List OV) (p : Option Addr) (c : Nat) (E : List (Nat × Obj)), (os.map OV.l = ordN n ∧ ∀ o, o ∈ os → o.ok) ∧ v = .slice p os.length c ∧ Row (.slice p os.length c) os.length (fl OV.c1 os) 1 70 E ∧ F' = E ++ os.flatMap OV.E)
  | 0, _ => ord0_spec
  | n + 1, h => by
    have h1 := ordS_spec n (by omega) (ord_spec n (by omega))
    rw [show ((n + 1 : Nat) : Int) = (n : Int) + 1 by omega]; exact h1
section mt
theorem pick_at {α : Type} {l : List α} : ∀ {od : List Int} {k : Nat} {q : Int} {x : α}, (∀ i, i ∈ od → 0 ≤ i ∧ i < (l.length : Int)) → od[k]? = some q → l[q.toNat]? = some x → (pickL l od)[k]? = some x
  | [], k, q, x, _, h, _ => by simp at h
  | i :: od, k, q, x, hr, h, hx => by
    have hi := hr i (by simp)
    have e : l[i.toNat]? = some l[i.toNat] := List.getElem?_eq_getElem (by omega)
    have hp : pickL l (i :: od) = l[i.toNat] :: pickL l od := by unfold pickL; rw [List.filterMap_cons, e]
    rw [hp]
    cases k with
    | zero =>
      have : i = q := by simpa using h
      subst this
      rw [e] at hx; exact hx
    | succ k =>
      have h1 : od[k]? = some q := by simpa using h
      exact pick_at (fun j hj => hr j (List.mem_cons_of_mem _ hj)) h1 hx
theorem pick_len2 {α : Type} {l : List α} : ∀ {od : List Int}, (∀ i, i ∈ od → 0 ≤ i ∧ i < (l.length : Int)) → (pickL l od).length = od.length
  | [], _ => rfl
  | i :: od, hr => by
    have hi := hr i (by simp)
    have e : l[i.toNat]? = some l[i.toNat] := List.getElem?_eq_getElem (by omega)
    have hp : pickL l (i :: od) = l[i.toNat] :: pickL l od := by unfold pickL; rw [List.filterMap_cons, e]
    rw [hp, List.length_cons, List.length_cons, pick_len2 fun j hj => hr j (List.mem_cons_of_mem _ hj)]
def zpA (a b : Ru) (pr : List Int) : List (Int × Int) := (vars a).zip (pickL (vars b) pr)
theorem zp_snoc {a b : Ru} {pr : List Int} {j : Nat} {v x : Int} (h1 : (vars a)[j]? = some v) (h2 : (pickL (vars b) pr)[j]? = some x) : (zpA a b pr).take (j + 1) = (zpA a b pr).take j ++ [(v, x)] := by
  have : (zpA a b pr)[j]? = some (v, x) := by unfold zpA; rw [List.getElem?_zip_eq_some]; exact ⟨h1, h2⟩
  rw [List.take_add_one, this]; rfl
theorem zp_new {a b : Ru} {pr : List Int} {j : Nat} {v : Int} (h1 : (vars a)[j]? = some v) (hl : (vars a).length ≤ (pickL (vars b) pr).length) : v ∉ ((zpA a b pr).take j).map Prod.fst := by
  unfold zpA
  rw [List.map_take, List.map_fst_zip hl]
  exact nodup_take_not (vars_nodup a) h1
theorem zp_end {a b : Ru} {pr : List Int} {j : Nat} (h : j = (vars a).length) : (zpA a b pr).take j = zpA a b pr := by
  refine List.take_of_length_le ?_
  unfold zpA
  rw [List.length_zip]; omega
theorem vars_i64 {t : RV} (ht : t.ok) : ∀ x, x ∈ vars t.ru → I64 x := fun x hx => by
  rcases vars_occ hx with ⟨q, h1, _, h3⟩ | ⟨l, q, h0, h1, _, h3⟩
  · rw [← h3]; exact (ht.hd.ok q h1).v
  · obtain ⟨l0, h4, rfl⟩ := List.mem_map.1 (show l ∈ t.ls.map LV.l from h0)
    rw [← h3]; exact ((ht.ls l0 h4).ags.ok q h1).v
theorem zp_i64 {a : Ru} {t : RV} (ht : t.ok) (pr : List Int) (y : Int) : I64 (tof (zpA a t.ru pr) y) := by
  rcases tof_mem (e := zpA a t.ru pr) (x := y) with ⟨q, hq, h⟩ | h
  · rw [h]
    have h1 := (List.of_mem_zip hq).2
    obtain ⟨i, _, h2⟩ := List.mem_filterMap.1 h1
    exact vars_i64 ht _ (List.mem_of_getElem? h2)
  · rw [h]; exact ⟨by omega, by omega⟩
def NoM (a b : Ru) (pr : List Int) : Prop := ¬ (MtH a b pr ∧ ∃ od, od ∈ ordN a.b.length ∧ MtB a b pr od)
theorem take_next {α : Type} {P : α → Prop} {l : List α} {i : Nat} {x : α} (h : ∀ y, y ∈ l.take i → P y) (hx : l[i]? = some x) (hp : P x) : ∀ y, y ∈ l.take (i + 1) → P y := fun y hy => by
  rw [List.take_add_one, hx] at hy
  rcases List.mem_append.1 hy with h1 | h1
  · exact h y h1
  · have : y = x := by simpa using h1
    rw [this]; exact hp
theorem take_full {α : Type} {P : α → Prop} {l : List α} {i : Nat} (h : ∀ y, y ∈ l.take i → P y) (hi : l.length ≤ i) : ∀ y, y ∈ l → P y := fun y hy => h y (by rw [List.take_of_length_le hi]; exact hy)
theorem row44 (k n : Nat) : Row (.slice (some ⟨k, 0, none⟩) n n) n (fl iI (ints n)) 1 3 [(k, C (fl iI (ints n)) 3)] := .inr ⟨k, n, [], rfl, by rw [fl_len iI_len, ints_len], by rw [List.append_nil, fl_len iI_len, ints_len], Nat.le_refl _, by rw [List.append_nil]⟩
structure Rnm (r r' : RV) (f : Int → Int) : Prop where
  p : r'.p = r.p
  a : r'.a = r.a.map (chT f)
  b : r'.ls.map LV.l = (r.ls.map LV.l).map (chL f)
  n : r'.ls.length = r.ls.length
theorem rnm_of {r r' : RV} {f : Int → Int} (h : r'.ru = rewr r.ru (ints r.ls.length) f) : Rnm r r' f := by
  have hb : r'.ls.map LV.l = (r.ls.map LV.l).map (chL f) := by
    have h1 : r'.ls.map LV.l = (pickL (r.ls.map LV.l) (ints r.ls.length)).map (chL f) := congrArg Ru.b h
    have h2 := pick_ints (r.ls.map LV.l)
    rw [List.length_map] at h2
    rw [h1, h2]
  refine ⟨congrArg Ru.p h, congrArg Ru.a h, hb, ?_⟩
  have := congrArg List.length hb
  rw [List.length_map, List.length_map, List.length_map] at this; exact this
theorem mtb_no {a b : Ru} {pr od : List Int} {k : Nat} {q : Int} {x y : Lt} {L : List Lt} (hL : L = a.b.map (chL (mtF a b pr))) (hr : ∀ i, i ∈ od → 0 ≤ i ∧ i < (L.length : Int)) (hq : od[k]? = some q) (hx : L[q.toNat]? = some x) (hy : b.b[k]? = some y) (hxy : ¬ x = y) : ¬ MtB a b pr od := fun h => by
  have h1 := pick_at hr hq hx
  unfold MtB at h
  rw [← hL] at h
  rw [h, hy] at h1
  injection h1 with h1; exact hxy h1.symm
end mt


attribute [local irreducible] RV.E

set_option maxHeartbeats 32000000 in
theorem matches_spec (r t : RV) (hr : r.ok) (ht : t.ok) (hv : (vars r.ru).length ≤ 5) (hb : r.ls.length ≤ 5) : SpK Tryd.prog 21 #[.agg ⟨[.string r.p, .slice r.hp r.a.length r.hc, .slice r.bp r.ls.length r.bc]⟩, .agg ⟨[.string t.p, .slice t.hp t.a.length t.hc, .slice t.bp t.ls.length t.bc]⟩] (fun w => Mem r.E w ∧ Mem t.E w) [] (fun v F' => ∃ b, v = .bool b ∧ (b = true ↔ Mat r.ru t.ru) ∧ F' = []) := by
  refine f_enter (args := [.agg ⟨[.string r.p, .slice r.hp r.a.length r.hc, .slice r.bp r.ls.length r.bc]⟩, .agg ⟨[.string t.p, .slice t.hp t.a.length t.hc, .slice t.bp t.ls.length t.bc]⟩]) Tryd.func21 rfl Tryd.ntmps21 rfl ?_
  intro w0 w a hpre hl hh
  have hrl := hr.len; have htl := ht.len
  have hnb := vars_bd hr; have hnb2 := vars_bd ht
  have hvn := vars_nodup r.ru
  have hbm : r.ru.b.length = r.ls.length := List.length_map ..
  have hbm2 : t.ru.b.length = t.ls.length := List.length_map ..
  simp only [slotsFrom, Nat.reduceAdd] at hl
  refine c_seq ?_
  refine c_region ?_
  refine wl (w_box hl hh rfl trivial rfl rfl ?_)
  clear hl hh a w; intro k2 a w hl hh
  refine wl (w_box hl hh rfl trivial rfl rfl ?_)
  clear hl hh a w; intro k3 a w hl hh
  refine wl (wl_val hl rfl trivial (r_assign hl rfl) ?_)
  clear hl a; intro a hl
  refine w_nil ?_
  have hl2 := hl.add (t := 2) (hl.add (t := 3) (hl.nil) rfl) rfl; clear hl; have hl := hl2; clear hl2
  refine then_normal ?_
  refine c_seq ?_
  refine cut_region (fun a w => ∃ (vp : Option Addr) (vc : Nat) (Ev : List (Nat × Obj)) (up : Option Addr) (uc : Nat) (Eu : List (Nat × Obj)), (Row (.slice vp (vars r.ru).length vc) (vars r.ru).length (fl iI (vars r.ru)) 1 3 Ev ∧ Row (.slice up (vars t.ru).length uc) (vars t.ru).length (fl iI (vars t.ru)) 1 3 Eu) ∧ Sl 164 [(2, .pointer (some ⟨k2, 0, none⟩)), (3, .pointer (some ⟨k3, 0, none⟩)), (5, .slice vp (vars r.ru).length vc), (6, .slice up (vars t.ru).length uc)] a ∧ Has [] w0 ((k2, C [.string r.p, .slice r.hp r.a.length r.hc, .slice r.bp r.ls.length r.bc] 35) :: (k3, C [.string t.p, .slice t.hp t.a.length t.hc, .slice t.bp t.ls.length t.bc] 35) :: (Ev ++ Eu)) w) ?_ ?_
  ·
    refine c_draw [(k2, C [.string r.p, .slice r.hp r.a.length r.hc, .slice r.bp r.ls.length r.bc] 35), (k3, C [.string t.p, .slice t.hp t.a.length t.hc, .slice t.bp t.ls.length t.bc] 35)] [3, 4, 5] mixed hh ?_
    clear hh w; intro w hh
    have hM : Mem [(k2, C [.string r.p, .slice r.hp r.a.length r.hc, .slice r.bp r.ls.length r.bc] 35), (k3, C [.string t.p, .slice t.hp t.a.length t.hc, .slice t.bp t.ls.length t.bc] 35)] w := (memK hh (by repeat (first | exact keeps_nil | apply keeps_cons (by repeat (first | exact find_head | apply find_tail | apply find_skip)) (by first  | rfl) | exact keeps_self | exact keeps_left | apply keeps_app | apply keeps_mv | apply keeps_skip)))
    refine d_take (i := 0) hl rfl (by kernel_rfl) (by kernel_rfl) (by kernel_rfl) (by kernel_rfl) (by kernel_rfl) rfl trivial (fun _ _ _ h => by cases h.1) hM (fun w hC => r_loadCA hl rfl agg35 hC (by repeat (first | exact find_head | apply find_tail | apply find_skip)) (by first | exact hd5 | exact hd8 | (simp only [List.getElem?_cons_zero, List.getElem?_cons_succ, Value.cells, List.take_zero, List.take_succ_cons, List.take_nil, List.drop_zero, List.drop_succ_cons, List.drop_nil, List.length_cons, List.length_nil, List.cons_append, List.nil_append, List.append_nil, Nat.zero_add, Nat.add_zero, Nat.reduceAdd, Nat.reduceBEq, Nat.reduceEqDiff, Nat.ble, BEq.rfl, Bool.and_true, Bool.and_self, cond_true, beq_self_eq_true]; rfl)) (by first | rfl | (simp; done))) rfl ?_
    clear hl a; intro a hl
    refine d_take (i := 2) hl rfl (by kernel_rfl) (by kernel_rfl) (by kernel_rfl) (by kernel_rfl) (by kernel_rfl) rfl trivial (fun _ _ _ h => by cases h.1) hM (fun w hC => r_loadCA hl rfl agg35 hC (by repeat (first | exact find_head | apply find_tail | apply find_skip)) (by first | exact hd5 | exact hd8 | (simp only [List.getElem?_cons_zero, List.getElem?_cons_succ, Value.cells, List.take_zero, List.take_succ_cons, List.take_nil, List.drop_zero, List.drop_succ_cons, List.drop_nil, List.length_cons, List.length_nil, List.cons_append, List.nil_append, List.append_nil, Nat.zero_add, Nat.add_zero, Nat.reduceAdd, Nat.reduceBEq, Nat.reduceEqDiff, Nat.ble, BEq.rfl, Bool.and_true, Bool.and_self, cond_true, beq_self_eq_true]; rfl)) (by first | rfl | (simp; done))) rfl ?_
    clear hl a; intro a hl
    refine d_one (i := 1) (by kernel_rfl) rfl ?_
    try clear hM
    refine id (w_call hl hh rfl trivial rfl cal25 rfl (vars_spec r hr) (by repeat (first | exact keeps_nil | apply keeps_cons (by repeat (first | exact find_head | apply find_tail | apply find_skip)) (by first  | rfl) | exact keeps_self | exact keeps_left | apply keeps_app | apply keeps_mv | apply keeps_skip)) (mem_keep hh hpre.1) ?_)
    clear hl hh a w; intro vc Fc a w hR hl hh
    obtain ⟨vp, vc, rfl, hRv⟩ := hR
    try simp only [List.cons_append, List.nil_append, List.append_assoc, List.append_nil] at hh
    generalize Fc = Ev at hh hRv
    have hM : Mem [(k2, C [.string r.p, .slice r.hp r.a.length r.hc, .slice r.bp r.ls.length r.bc] 35), (k3, C [.string t.p, .slice t.hp t.a.length t.hc, .slice t.bp t.ls.length t.bc] 35)] w := (memK hh (by repeat (first | exact keeps_nil | apply keeps_cons (by repeat (first | exact find_head | apply find_tail | apply find_skip)) (by first  | rfl) | exact keeps_self | exact keeps_left | apply keeps_app | apply keeps_mv | apply keeps_skip)))
    refine d_step (fun _ => hM) ?_
    refine d_one (i := 3) (by kernel_rfl) rfl ?_
    try clear hM
    refine id (w_call hl hh rfl trivial rfl cal25 rfl (vars_spec t ht) (by repeat (first | exact keeps_nil | apply keeps_cons (by repeat (first | exact find_head | apply find_tail | apply find_skip)) (by first  | rfl) | exact keeps_self | exact keeps_left | apply keeps_app | apply keeps_mv | apply keeps_skip)) (mem_keep hh hpre.2) ?_)
    clear hl hh a w; intro vc Fc a w hR hl hh
    obtain ⟨up, uc, rfl, hRu⟩ := hR
    try simp only [List.cons_append, List.nil_append, List.append_assoc, List.append_nil] at hh
    generalize Fc = Eu at hh hRu
    refine d_step (fun h => absurd h (by decide)) ?_
    refine d_takeL (i := 4) hl rfl (by kernel_rfl) (by kernel_rfl) (by kernel_rfl) (by kernel_rfl) (by kernel_rfl) rfl trivial (fun _ _ _ h => by cases h.1) (fun w => r_assign hl rfl) rfl ?_
    clear hl a; intro a hl
    refine d_takeL (i := 5) hl rfl (by kernel_rfl) (by kernel_rfl) (by kernel_rfl) (by kernel_rfl) (by kernel_rfl) rfl trivial (fun _ _ _ h => by cases h.1) (fun w => r_assign hl rfl) rfl ?_
    clear hl a; intro a hl
    refine d_done (by kernel_rfl) ?_
    try clear hM
    exact ⟨rfl, vp, vc, Ev, up, uc, Eu, ⟨hRv, hRu⟩, hl.addE (t := 2) (hl.addE (t := 3) (hl.addE (t := 5) (hl.addE (t := 6) (hl.nil) rfl (by first | rfl)) rfl (by first | rfl)) rfl (by first | rfl)) rfl (by first | rfl), hh.keep (by repeat (first | exact keeps_nil | apply keeps_cons (by repeat (first | exact find_head | apply find_tail | apply find_skip)) (by first  | rfl) | exact keeps_self | exact keeps_left | apply keeps_app | apply keeps_mv | apply keeps_skip))⟩
  ·
    clear hl hh a w; intro a w hI
    obtain ⟨vp, vc, Ev, up, uc, Eu, ⟨hRv, hRu⟩, hl, hh⟩ := hI
    have hl2 := hl.add (t := 2) (hl.add (t := 3) (hl.add (t := 5) (hl.add (t := 6) (hl.nil) rfl) rfl) rfl) rfl; clear hl; have hl := hl2; clear hl2
    refine then_normal ?_
    refine c_seq ?_
    refine c_seq ?_
    refine c_region ?_
    refine wl (wl_val hl rfl trivial (r_move hl rfl) ?_)
    clear hl a; intro a hl
    refine wl (wl_val hl rfl trivial (r_lenS hl rfl slc70) ?_)
    clear hl a; intro a hl
    refine wl (wl_val hl rfl trivial (r_move hl rfl) ?_)
    clear hl a; intro a hl
    refine wl (wl_val hl rfl trivial (r_lenS hl rfl slc70) ?_)
    clear hl a; intro a hl
    refine wl (wl_val hl rfl trivial (r_neq hl rfl rfl) ?_)
    clear hl a; intro a hl
    refine wl (wl_val hl rfl trivial (r_move hl rfl) ?_)
    clear hl a; intro a hl
    refine sl_split (t := 32) hl rfl ?_ ?_
    · intro hg1; clear hl; intro hl
      try simp only [decide_eq_true_eq, decide_eq_false_iff_not, Bool.not_eq_true', Bool.not_eq_false', Bool.not_eq_true, Bool.not_eq_false, Bool.and_eq_true, Bool.or_eq_true, Bool.and_eq_false_iff, Bool.or_eq_false_iff, Bool.not_not, ne_eq, Int.not_lt, Int.not_le, Decidable.not_not, beq_iff_eq, bne_iff_ne] at hg1
      refine wl (wl_skip hl rfl ⟨_, _, rfl, rfl, rfl⟩ ?_)
      clear hl a; intro a hl
      refine wl (wl_skip hl rfl ⟨_, _, rfl, rfl, rfl⟩ ?_)
      clear hl a; intro a hl
      refine wl (wl_skip hl rfl ⟨_, _, rfl, rfl, rfl⟩ ?_)
      clear hl a; intro a hl
      refine wl (wl_skip hl rfl ⟨_, _, rfl, rfl, rfl⟩ ?_)
      clear hl a; intro a hl
      refine wl (wl_skip hl rfl ⟨_, _, rfl, rfl, rfl⟩ ?_)
      clear hl a; intro a hl
      refine wl (wl_skip hl rfl ⟨_, _, rfl, rfl, rfl⟩ ?_)
      clear hl a; intro a hl
      refine wl (wl_skip hl rfl ⟨_, _, rfl, rfl, rfl⟩ ?_)
      clear hl a; intro a hl
      refine wl (wl_val hl rfl trivial (r_pickT hl rfl rfl) ?_)
      clear hl a; intro a hl
      refine w_nil ?_
      have hl2 := hl.add (t := 2) (hl.add (t := 3) (hl.add (t := 5) (hl.add (t := 6) (hl.add (t := 40) (hl.nil) rfl) rfl) rfl) rfl) rfl; clear hl; have hl := hl2; clear hl2
      refine then_normal ?_
      refine c_condT hl rfl ?_
      refine c_seq ?_
      refine c_region ?_
      refine wl (wl_val hl rfl trivial (r_assign hl rfl) ?_)
      clear hl a; intro a hl
      refine w_nil ?_
      have hl2 := hl.add (t := 4) (hl.nil) rfl; clear hl; have hl := hl2; clear hl2
      refine then_normal ?_
      refine wp_ret ?_
      refine then_ret ?_
      refine f_ret1 (F' := []) hl hh rfl rfl (by repeat (first | exact keeps_nil | apply keeps_cons (by repeat (first | exact find_head | apply find_tail | apply find_skip)) (by first  | rfl) | exact keeps_self | exact keeps_left | apply keeps_app | apply keeps_mv | apply keeps_skip)) ?_
      exact ⟨false, rfl, ⟨fun h9 => (by cases h9), fun h9 => (by have h8 := h9.1; rw [hbm, hbm2] at h8; omega)⟩, rfl⟩
    · intro hg1; clear hl; intro hl
      try simp only [decide_eq_true_eq, decide_eq_false_iff_not, Bool.not_eq_true', Bool.not_eq_false', Bool.not_eq_true, Bool.not_eq_false, Bool.and_eq_true, Bool.or_eq_true, Bool.and_eq_false_iff, Bool.or_eq_false_iff, Bool.not_not, ne_eq, Int.not_lt, Int.not_le, Decidable.not_not, beq_iff_eq, bne_iff_ne] at hg1
      refine wl (wl_val hl rfl ⟨_, _, rfl, rfl, rfl⟩ (r_field hl rfl fld35_1) ?_)
      clear hl a; intro a hl
      first | refine wl (w_load hl hh rfl ⟨_, _, rfl, rfl, rfl⟩ one33 rfl (by repeat (first | exact find_head | apply find_tail | apply find_skip)) (by first | rfl) ?_) | refine wl (wl_val hl rfl ⟨_, _, rfl, rfl, rfl⟩ (r_load hl rfl one33 (hh.mem _ _ (by repeat (first | exact hb1m | exact List.mem_append_left _ hb1m | apply List.mem_cons_of_mem | apply List.mem_append_right))) (List.getElem?_toArray.trans hd1)) ?_) | refine wl (wl_val hl rfl ⟨_, _, rfl, rfl, rfl⟩ (r_load hl rfl one33 (hh.mem _ _ (by repeat (first | exact hb2m | exact List.mem_append_left _ hb2m | apply List.mem_cons_of_mem | apply List.mem_append_right))) (List.getElem?_toArray.trans hd2)) ?_) | refine wl (wl_val hl rfl ⟨_, _, rfl, rfl, rfl⟩ (r_load hl rfl one33 (hh.mem _ _ (by repeat (first | exact hb3m | exact List.mem_append_left _ hb3m | apply List.mem_cons_of_mem | apply List.mem_append_right))) (List.getElem?_toArray.trans hd3)) ?_) | refine wl (wl_val hl rfl ⟨_, _, rfl, rfl, rfl⟩ (r_load hl rfl one33 (hh.mem _ _ (by repeat (first | exact hmemS | exact List.mem_append_left _ hmemS | apply List.mem_cons_of_mem | apply List.mem_append_right))) (List.getElem?_toArray.trans hd4)) ?_) | refine wl (wl_val hl rfl ⟨_, _, rfl, rfl, rfl⟩ (r_load hl rfl one33 (hh.mem _ _ (by repeat (first | exact hb4m | exact List.mem_append_left _ hb4m | apply List.mem_cons_of_mem | apply List.mem_append_right))) (List.getElem?_toArray.trans hd6)) ?_) | refine wl (wl_val hl rfl ⟨_, _, rfl, rfl, rfl⟩ (r_load hl rfl one33 (hh.mem _ _ (by repeat (first | exact hmemO | exact List.mem_append_left _ hmemO | apply List.mem_cons_of_mem | apply List.mem_append_right))) (List.getElem?_toArray.trans hd7)) ?_)
      clear hl a; intro a hl
      refine wl (wl_val hl rfl ⟨_, _, rfl, rfl, rfl⟩ (r_lenS hl rfl slc33) ?_)
      clear hl a; intro a hl
      refine wl (wl_val hl rfl ⟨_, _, rfl, rfl, rfl⟩ (r_field hl rfl fld35_1) ?_)
      clear hl a; intro a hl
      first | refine wl (w_load hl hh rfl ⟨_, _, rfl, rfl, rfl⟩ one33 rfl (by repeat (first | exact find_head | apply find_tail | apply find_skip)) (by first | rfl) ?_) | refine wl (wl_val hl rfl ⟨_, _, rfl, rfl, rfl⟩ (r_load hl rfl one33 (hh.mem _ _ (by repeat (first | exact hb1m | exact List.mem_append_left _ hb1m | apply List.mem_cons_of_mem | apply List.mem_append_right))) (List.getElem?_toArray.trans hd1)) ?_) | refine wl (wl_val hl rfl ⟨_, _, rfl, rfl, rfl⟩ (r_load hl rfl one33 (hh.mem _ _ (by repeat (first | exact hb2m | exact List.mem_append_left _ hb2m | apply List.mem_cons_of_mem | apply List.mem_append_right))) (List.getElem?_toArray.trans hd2)) ?_) | refine wl (wl_val hl rfl ⟨_, _, rfl, rfl, rfl⟩ (r_load hl rfl one33 (hh.mem _ _ (by repeat (first | exact hb3m | exact List.mem_append_left _ hb3m | apply List.mem_cons_of_mem | apply List.mem_append_right))) (List.getElem?_toArray.trans hd3)) ?_) | refine wl (wl_val hl rfl ⟨_, _, rfl, rfl, rfl⟩ (r_load hl rfl one33 (hh.mem _ _ (by repeat (first | exact hmemS | exact List.mem_append_left _ hmemS | apply List.mem_cons_of_mem | apply List.mem_append_right))) (List.getElem?_toArray.trans hd4)) ?_) | refine wl (wl_val hl rfl ⟨_, _, rfl, rfl, rfl⟩ (r_load hl rfl one33 (hh.mem _ _ (by repeat (first | exact hb4m | exact List.mem_append_left _ hb4m | apply List.mem_cons_of_mem | apply List.mem_append_right))) (List.getElem?_toArray.trans hd6)) ?_) | refine wl (wl_val hl rfl ⟨_, _, rfl, rfl, rfl⟩ (r_load hl rfl one33 (hh.mem _ _ (by repeat (first | exact hmemO | exact List.mem_append_left _ hmemO | apply List.mem_cons_of_mem | apply List.mem_append_right))) (List.getElem?_toArray.trans hd7)) ?_)
      clear hl a; intro a hl
      refine wl (wl_val hl rfl ⟨_, _, rfl, rfl, rfl⟩ (r_lenS hl rfl slc33) ?_)
      clear hl a; intro a hl
      refine wl (wl_val hl rfl ⟨_, _, rfl, rfl, rfl⟩ (r_neq hl rfl rfl) ?_)
      clear hl a; intro a hl
      refine wl (wl_val hl rfl trivial (r_pickF hl rfl rfl) ?_)
      clear hl a; intro a hl
      refine w_nil ?_
      have hl2 := hl.add (t := 2) (hl.add (t := 3) (hl.add (t := 5) (hl.add (t := 6) (hl.add (t := 40) (hl.nil) rfl) rfl) rfl) rfl) rfl; clear hl; have hl := hl2; clear hl2
      refine then_normal ?_
      refine c_cond hl rfl ?_ ?_
      · intro hc0
        try simp only [decide_eq_true_eq, decide_eq_false_iff_not, Bool.not_eq_true', Bool.not_eq_false', Bool.not_eq_true, Bool.not_eq_false, Bool.and_eq_true, Bool.or_eq_true, Bool.and_eq_false_iff, Bool.or_eq_false_iff, Bool.not_not, ne_eq, Int.not_lt, Int.not_le, Decidable.not_not, beq_iff_eq, bne_iff_ne] at hc0
        refine c_seq ?_
        refine c_region ?_
        refine wl (wl_val hl rfl trivial (r_assign hl rfl) ?_)
        clear hl a; intro a hl
        refine w_nil ?_
        have hl2 := hl.add (t := 4) (hl.nil) rfl; clear hl; have hl := hl2; clear hl2
        refine then_normal ?_
        refine wp_ret ?_
        refine then_ret ?_
        refine f_ret1 (F' := []) hl hh rfl rfl (by repeat (first | exact keeps_nil | apply keeps_cons (by repeat (first | exact find_head | apply find_tail | apply find_skip)) (by first  | rfl) | exact keeps_self | exact keeps_left | apply keeps_app | apply keeps_mv | apply keeps_skip)) ?_
        exact ⟨false, rfl, ⟨fun h9 => (by cases h9), fun h9 => (by have h8 := h9.1; rw [hbm, hbm2] at h8; omega)⟩, rfl⟩
      · intro hc0
        try simp only [decide_eq_true_eq, decide_eq_false_iff_not, Bool.not_eq_true', Bool.not_eq_false', Bool.not_eq_true, Bool.not_eq_false, Bool.and_eq_true, Bool.or_eq_true, Bool.and_eq_false_iff, Bool.or_eq_false_iff, Bool.not_not, ne_eq, Int.not_lt, Int.not_le, Decidable.not_not, beq_iff_eq, bne_iff_ne] at hc0
        have hvl : (vars r.ru).length = (vars t.ru).length := by omega
        have hbl : r.ls.length = t.ls.length := by omega
        refine wp_skip ?_
        refine then_normal ?_
        refine c_seq ?_
        refine c_region ?_
        refine wl (wl_val hl rfl trivial (r_field hl rfl fld35_1) ?_)
        clear hl a; intro a hl
        first | refine wl (w_load hl hh rfl trivial one33 rfl (by repeat (first | exact find_head | apply find_tail | apply find_skip)) (by first | rfl) ?_) | refine wl (wl_val hl rfl trivial (r_load hl rfl one33 (hh.mem _ _ (by repeat (first | exact hb1m | exact List.mem_append_left _ hb1m | apply List.mem_cons_of_mem | apply List.mem_append_right))) (List.getElem?_toArray.trans hd1)) ?_) | refine wl (wl_val hl rfl trivial (r_load hl rfl one33 (hh.mem _ _ (by repeat (first | exact hb2m | exact List.mem_append_left _ hb2m | apply List.mem_cons_of_mem | apply List.mem_append_right))) (List.getElem?_toArray.trans hd2)) ?_) | refine wl (wl_val hl rfl trivial (r_load hl rfl one33 (hh.mem _ _ (by repeat (first | exact hb3m | exact List.mem_append_left _ hb3m | apply List.mem_cons_of_mem | apply List.mem_append_right))) (List.getElem?_toArray.trans hd3)) ?_) | refine wl (wl_val hl rfl trivial (r_load hl rfl one33 (hh.mem _ _ (by repeat (first | exact hmemS | exact List.mem_append_left _ hmemS | apply List.mem_cons_of_mem | apply List.mem_append_right))) (List.getElem?_toArray.trans hd4)) ?_) | refine wl (wl_val hl rfl trivial (r_load hl rfl one33 (hh.mem _ _ (by repeat (first | exact hb4m | exact List.mem_append_left _ hb4m | apply List.mem_cons_of_mem | apply List.mem_append_right))) (List.getElem?_toArray.trans hd6)) ?_) | refine wl (wl_val hl rfl trivial (r_load hl rfl one33 (hh.mem _ _ (by repeat (first | exact hmemO | exact List.mem_append_left _ hmemO | apply List.mem_cons_of_mem | apply List.mem_append_right))) (List.getElem?_toArray.trans hd7)) ?_)
        clear hl a; intro a hl
        refine wl (wl_val hl rfl trivial (r_lenS hl rfl slc33) ?_)
        clear hl a; intro a hl
        refine wl (w_makeSliceN hl hh rfl trivial app70 zero3 rfl rfl (by omega) (by decide) ?_)
        clear hl hh a w; intro k44 jk44 a w hjk44 hl hh
        have hz9 := zeros_eq hjk44
        rw [hz9, ← upTo_0] at hh
        clear hz9
        refine wl (wl_val hl rfl trivial (r_assign hl rfl) ?_)
        clear hl a; intro a hl
        refine w_nil ?_
        have hl2 := hl.add (t := 2) (hl.add (t := 3) (hl.add (t := 5) (hl.add (t := 6) (hl.add (t := 7) (hl.nil) rfl) rfl) rfl) rfl) rfl; clear hl; have hl := hl2; clear hl2
        refine then_normal ?_
        refine c_seq ?_
        refine c_seq ?_
        refine c_region ?_
        refine wl (wl_val hl rfl trivial (r_move hl rfl) ?_)
        clear hl a; intro a hl
        refine wl (wl_val hl rfl trivial (r_lenS hl rfl slc70) ?_)
        clear hl a; intro a hl
        refine wl (wl_val hl rfl trivial (r_move hl rfl) ?_)
        clear hl a; intro a hl
        refine w_nil ?_
        have hl2 := hl.add (t := 2) (hl.add (t := 3) (hl.add (t := 5) (hl.add (t := 6) (hl.add (t := 7) (hl.add (t := 46) (hl.add (t := 47) (hl.nil) rfl) rfl) rfl) rfl) rfl) rfl) rfl; clear hl; have hl := hl2; clear hl2
        refine then_normal ?_
        refine wp_block ?_
        obtain ⟨KS0, hKS0, hk⟩ := (hl.add (t := 2) (hl.add (t := 3) (hl.add (t := 5) (hl.add (t := 6) (hl.add (t := 7) (hl.add (t := 46) (hl.nil) rfl) rfl) rfl) rfl) rfl) rfl).name
        obtain ⟨HS0, hHS0, hh2⟩ := hh.name (keeps_cons (b := k44) (o' := C (fl iI (upTo r.ls.length 0) ) 3) (by repeat (first | exact find_head | apply find_tail | apply find_skip)) (by first | rfl) (keeps_nil))
        refine c_loop (α := Nat) (fun i => r.ls.length - i) (fun i a w => (i ≤ r.ls.length) ∧ Sl 164 ([(47, .int .i64 (i : Int))] ++ KS0) a ∧ Has _ w0 ([(k44, C (fl iI (upTo r.ls.length i) ) 3)] ++ HS0) w) 0 ⟨(Nat.zero_le _), hl.addE (t := 47) (hk) rfl (by first | rfl), hh2⟩ ?_
        clear hk hh2 hl hh a w
        intro i a w hI
        obtain ⟨hi, hl, hh⟩ := hI
        subst hKS0; subst hHS0
        simp only [List.cons_append, List.nil_append, List.append_nil, List.append_assoc] at hl hh
        refine c_seq ?_
        refine c_region ?_
        refine wl (wl_val hl rfl trivial (r_lss hl rfl rfl) ?_)
        clear hl a; intro a hl
        refine w_nil ?_
        have hl2 := hl.add (t := 2) (hl.add (t := 3) (hl.add (t := 5) (hl.add (t := 6) (hl.add (t := 7) (hl.add (t := 46) (hl.add (t := 47) (hl.add (t := 48) (hl.nil) rfl) rfl) rfl) rfl) rfl) rfl) rfl) rfl; clear hl; have hl := hl2; clear hl2
        refine then_normal ?_
        refine c_seq ?_
        refine c_cond hl rfl ?_ ?_
        · intro hc1
          try simp only [decide_eq_true_eq, decide_eq_false_iff_not, Bool.not_eq_true', Bool.not_eq_false', Bool.not_eq_true, Bool.not_eq_false, Bool.and_eq_true, Bool.or_eq_true, Bool.and_eq_false_iff, Bool.or_eq_false_iff, Bool.not_not, ne_eq, Int.not_lt, Int.not_le, Decidable.not_not, beq_iff_eq, bne_iff_ne] at hc1
          refine wp_skip ?_
          refine then_normal ?_
          refine c_seq ?_
          refine wp_block ?_
          refine c_seq ?_
          refine c_region ?_
          refine wl (wl_val hl rfl trivial (r_move hl rfl) ?_)
          clear hl a; intro a hl
          refine wl (wl_val hl rfl trivial (r_assign hl rfl) ?_)
          clear hl a; intro a hl
          refine w_nil ?_
          have hl2 := hl.add (t := 2) (hl.add (t := 3) (hl.add (t := 5) (hl.add (t := 6) (hl.add (t := 7) (hl.add (t := 8) (hl.add (t := 46) (hl.add (t := 47) (hl.nil) rfl) rfl) rfl) rfl) rfl) rfl) rfl) rfl; clear hl; have hl := hl2; clear hl2
          refine then_normal ?_
          refine c_region ?_
          refine wl (wl_val hl rfl trivial (r_move hl rfl) ?_)
          clear hl a; intro a hl
          refine wl (wl_val hl rfl trivial (r_move hl rfl) ?_)
          clear hl a; intro a hl
          refine wl (wl_val hl rfl trivial (r_move hl rfl) ?_)
          clear hl a; intro a hl
          refine wl (wl_val hl rfl trivial (r_indexS hl rfl rfl slc70 (by omega) (by omega) (by first | (simp only [Int.reduceToNat]; rfl) | exact toNat_add1 _ | exact toNat_add2 _ _ | exact toNat_emod _ _ | exact Int.toNat_natCast _ | rfl)) ?_)
          clear hl a; intro a hl
          refine wl (w_store hl hh trivial one3 rfl rfl (by repeat (first | exact find_head | apply find_tail | apply find_skip)) (by exact fm0 (by rw [upTo_len (by omega)]; omega)) (by first | rfl | assumption | (apply Row.one; assumption)) (by exact (fs0 (by rw [upTo_len (by omega)]; omega)).trans (congrArg (fl iI) (upTo_set (by omega)))) ?_)
          clear hh w; intro w hh
          refine w_nil ?_
          have hl2 := hl.add (t := 2) (hl.add (t := 3) (hl.add (t := 5) (hl.add (t := 6) (hl.add (t := 7) (hl.add (t := 46) (hl.add (t := 47) (hl.nil) rfl) rfl) rfl) rfl) rfl) rfl) rfl; clear hl; have hl := hl2; clear hl2
          refine blk_normal ?_
          refine then_normal ?_
          refine c_region ?_
          first | refine wl (wl_val hl rfl trivial (r_add hl rfl rfl (by simp only [Fits]; omega)) ?_) | refine wl (wl_val hl rfl trivial (r_addW hl rfl rfl) ?_)
          clear hl a; intro a hl
          refine wl (wl_val hl rfl trivial (r_move hl rfl) ?_)
          clear hl a; intro a hl
          refine w_nil ?_
          have hl2 := hl.add (t := 2) (hl.add (t := 3) (hl.add (t := 5) (hl.add (t := 6) (hl.add (t := 7) (hl.add (t := 46) (hl.add (t := 47) (hl.nil) rfl) rfl) rfl) rfl) rfl) rfl) rfl; clear hl; have hl := hl2; clear hl2
          refine then_normal ?_
          refine ⟨i + 1, (by omega), (by omega), hl.addE (t := 47) (hl.addE (t := 2) (hl.addE (t := 3) (hl.addE (t := 5) (hl.addE (t := 6) (hl.addE (t := 7) (hl.addE (t := 46) (hl.nil) rfl (by first | rfl | rfl)) rfl (by first | rfl | rfl)) rfl (by first | rfl | rfl)) rfl (by first | rfl | rfl)) rfl (by first | rfl | rfl)) rfl (by first | rfl | rfl)) rfl (by first | rfl | rfl), hh.keep (by repeat (first | exact keeps_nil | apply keeps_cons (by repeat (first | exact find_head | apply find_tail | apply find_skip)) (by first  | rfl) | exact keeps_self | exact keeps_left | apply keeps_app | apply keeps_mv | apply keeps_skip))⟩
        · intro hc1
          try simp only [decide_eq_true_eq, decide_eq_false_iff_not, Bool.not_eq_true', Bool.not_eq_false', Bool.not_eq_true, Bool.not_eq_false, Bool.and_eq_true, Bool.or_eq_true, Bool.and_eq_false_iff, Bool.or_eq_false_iff, Bool.not_not, ne_eq, Int.not_lt, Int.not_le, Decidable.not_not, beq_iff_eq, bne_iff_ne] at hc1
          have hie9 : i = r.ls.length := by omega
          rw [hie9, upTo_end] at hh
          have hsp := fun k67 e he => rewr_spec r hr (ints r.ls.length) (some ⟨k44, 0, none⟩) r.ls.length [(k44, C (fl iI (ints r.ls.length)) 3)] (by rw [ints_len]; exact row44 _ _) (fun y hy => ints_mem hy) (by rw [ints_len]; omega) k67 e he
          simp only [ints_len] at hsp
          refine wp_exit ?_
          refine then_exit ?_
          refine then_exit ?_
          refine blk_exit ?_
          refine then_normal ?_
          refine c_seq ?_
          refine c_region ?_
          refine wl (wl_val hl rfl trivial (r_field hl rfl fld35_1) ?_)
          clear hl a; intro a hl
          first | refine wl (w_load hl hh rfl trivial one33 rfl (by repeat (first | exact find_head | apply find_tail | apply find_skip)) (by first | rfl) ?_) | refine wl (wl_val hl rfl trivial (r_load hl rfl one33 (hh.mem _ _ (by repeat (first | exact hb1m | exact List.mem_append_left _ hb1m | apply List.mem_cons_of_mem | apply List.mem_append_right))) (List.getElem?_toArray.trans hd1)) ?_) | refine wl (wl_val hl rfl trivial (r_load hl rfl one33 (hh.mem _ _ (by repeat (first | exact hb2m | exact List.mem_append_left _ hb2m | apply List.mem_cons_of_mem | apply List.mem_append_right))) (List.getElem?_toArray.trans hd2)) ?_) | refine wl (wl_val hl rfl trivial (r_load hl rfl one33 (hh.mem _ _ (by repeat (first | exact hb3m | exact List.mem_append_left _ hb3m | apply List.mem_cons_of_mem | apply List.mem_append_right))) (List.getElem?_toArray.trans hd3)) ?_) | refine wl (wl_val hl rfl trivial (r_load hl rfl one33 (hh.mem _ _ (by repeat (first | exact hmemS | exact List.mem_append_left _ hmemS | apply List.mem_cons_of_mem | apply List.mem_append_right))) (List.getElem?_toArray.trans hd4)) ?_) | refine wl (wl_val hl rfl trivial (r_load hl rfl one33 (hh.mem _ _ (by repeat (first | exact hb4m | exact List.mem_append_left _ hb4m | apply List.mem_cons_of_mem | apply List.mem_append_right))) (List.getElem?_toArray.trans hd6)) ?_) | refine wl (wl_val hl rfl trivial (r_load hl rfl one33 (hh.mem _ _ (by repeat (first | exact hmemO | exact List.mem_append_left _ hmemO | apply List.mem_cons_of_mem | apply List.mem_append_right))) (List.getElem?_toArray.trans hd7)) ?_)
          clear hl a; intro a hl
          refine wl (wl_val hl rfl trivial (r_lenS hl rfl slc33) ?_)
          clear hl a; intro a hl
          refine wl (w_call hl hh rfl trivial rfl cal56 rfl (ord_spec r.ls.length (by omega)) (by repeat (first | exact keeps_nil | apply keeps_cons (by repeat (first | exact find_head | apply find_tail | apply find_skip)) (by first  | rfl) | exact keeps_self | exact keeps_left | apply keeps_app | apply keeps_mv | apply keeps_skip)) trivial ?_)
          clear hl hh a w; intro vc Fc a w hR hl hh
          obtain ⟨os, op, oc, oE, ⟨hom, hoo⟩, rfl, hoR, rfl⟩ := hR
          try simp only [List.cons_append, List.nil_append, List.append_assoc, List.append_nil] at hh
          have hol : os.length ≤ 120 := by have h9 := congrArg List.length hom; rw [List.length_map] at h9; have := ord_small (n := r.ls.length) (by omega); omega
          refine wl (wl_val hl rfl trivial (r_assign hl rfl) ?_)
          clear hl a; intro a hl
          refine w_nil ?_
          have hl2 := hl.add (t := 2) (hl.add (t := 3) (hl.add (t := 5) (hl.add (t := 6) (hl.add (t := 7) (hl.add (t := 9) (hl.nil) rfl) rfl) rfl) rfl) rfl) rfl; clear hl; have hl := hl2; clear hl2
          refine then_normal ?_
          refine c_seq ?_
          refine c_seq ?_
          refine c_region ?_
          refine wl (wl_val hl rfl trivial (r_move hl rfl) ?_)
          clear hl a; intro a hl
          refine wl (wl_val hl rfl trivial (r_lenS hl rfl slc70) ?_)
          clear hl a; intro a hl
          refine wl (w_call hl hh rfl trivial rfl cal56 rfl (ord_spec (vars r.ru).length (by omega)) (by repeat (first | exact keeps_nil | apply keeps_cons (by repeat (first | exact find_head | apply find_tail | apply find_skip)) (by first  | rfl) | exact keeps_self | exact keeps_left | apply keeps_app | apply keeps_mv | apply keeps_skip)) trivial ?_)
          clear hl hh a w; intro vc Fc a w hR hl hh
          obtain ⟨qs, qp, qc, qE, ⟨hqm, hqo⟩, rfl, hqR, rfl⟩ := hR
          try simp only [List.cons_append, List.nil_append, List.append_assoc, List.append_nil] at hh
          have hql : qs.length ≤ 120 := by have h9 := congrArg List.length hqm; rw [List.length_map] at h9; have := ord_small (n := (vars r.ru).length) (by omega); omega
          refine wl (wl_val hl rfl trivial (r_lenS hl rfl slc122) ?_)
          clear hl a; intro a hl
          refine wl (wl_val hl rfl trivial (r_move hl rfl) ?_)
          clear hl a; intro a hl
          refine w_nil ?_
          have hl2 := hl.add (t := 2) (hl.add (t := 3) (hl.add (t := 5) (hl.add (t := 6) (hl.add (t := 7) (hl.add (t := 9) (hl.add (t := 61) (hl.add (t := 62) (hl.add (t := 63) (hl.nil) rfl) rfl) rfl) rfl) rfl) rfl) rfl) rfl) rfl; clear hl; have hl := hl2; clear hl2
          refine then_normal ?_
          refine wp_block ?_
          obtain ⟨KS1, hKS1, hk⟩ := (hl.add (t := 2) (hl.add (t := 3) (hl.add (t := 5) (hl.add (t := 6) (hl.add (t := 7) (hl.add (t := 9) (hl.add (t := 61) (hl.add (t := 62) (hl.nil) rfl) rfl) rfl) rfl) rfl) rfl) rfl) rfl).name
          obtain ⟨HS1, hHS1, hh2⟩ := hh.name (keeps_nil)
          refine c_loop (α := Nat) (fun i1 => qs.length - i1) (fun i1 a w => (i1 ≤ qs.length ∧ ∀ pr, pr ∈ (ordN (vars r.ru).length).take i1 → NoM r.ru t.ru pr) ∧ Sl 164 ([(63, .int .i64 (i1 : Int))] ++ KS1) a ∧ Has _ w0 ([] ++ HS1) w) 0 ⟨⟨Nat.zero_le _, fun pr h => by simp at h⟩, hl.addE (t := 63) (hk) rfl (by first | rfl), hh2⟩ ?_
          clear hk hh2 hl hh a w
          intro i1 a w hI
          obtain ⟨⟨hi1, hI1⟩, hl, hh⟩ := hI
          subst hKS1; subst hHS1
          simp only [List.cons_append, List.nil_append, List.append_nil, List.append_assoc] at hl hh
          refine c_seq ?_
          refine c_region ?_
          refine wl (wl_val hl rfl trivial (r_lss hl rfl rfl) ?_)
          clear hl a; intro a hl
          refine w_nil ?_
          have hl2 := hl.add (t := 2) (hl.add (t := 3) (hl.add (t := 5) (hl.add (t := 6) (hl.add (t := 7) (hl.add (t := 9) (hl.add (t := 61) (hl.add (t := 62) (hl.add (t := 63) (hl.add (t := 64) (hl.nil) rfl) rfl) rfl) rfl) rfl) rfl) rfl) rfl) rfl) rfl; clear hl; have hl := hl2; clear hl2
          refine then_normal ?_
          refine c_seq ?_
          refine c_cond hl rfl ?_ ?_
          · intro hc2
            try simp only [decide_eq_true_eq, decide_eq_false_iff_not, Bool.not_eq_true', Bool.not_eq_false', Bool.not_eq_true, Bool.not_eq_false, Bool.and_eq_true, Bool.or_eq_true, Bool.and_eq_false_iff, Bool.or_eq_false_iff, Bool.not_not, ne_eq, Int.not_lt, Int.not_le, Decidable.not_not, beq_iff_eq, bne_iff_ne] at hc2
            obtain ⟨s, hs⟩ : ∃ s, qs[i1]? = some s := ⟨_, List.getElem?_eq_getElem (by omega)⟩
            have hsm := List.mem_of_getElem? hs
            have hsn : (ordN (vars r.ru).length)[i1]? = some s.l := by rw [← hqm]; exact map_at OV.l hs
            have hsp9 := (mem_ord _ _).1 (List.mem_of_getElem? hsn)
            have hsl : s.l.length = (vars r.ru).length := perm_len hsp9
            have hsr : ∀ i, i ∈ s.l → 0 ≤ i ∧ i < ((vars t.ru).length : Int) := fun i hi => (by have := perm_rng hsp9 hi; omega)
            have hpl := pick_len2 hsr
            obtain ⟨b1, j1, hq1, _, _, hq1E⟩ := row_pos hqR (by omega)
            have hb1m : (b1, C (fl OV.c1 qs ++ j1) 70) ∈ qE := by rw [hq1E]; exact List.mem_singleton.2 rfl
            have hmemS : (s.b, C (fl iI s.l ++ s.j) 3) ∈ List.flatMap OV.E qs := List.mem_flatMap.2 ⟨s, hsm, List.mem_singleton.2 rfl⟩
            rw [hq1] at hl
            have hd1 := fl_cell1 (f := OV.c1) (g := OV.v) (fun _ => rfl) hs j1
            simp only [OV.v] at hd1
            refine wp_skip ?_
            refine then_normal ?_
            refine c_seq ?_
            refine wp_block ?_
            refine c_seq ?_
            refine c_region ?_
            refine wl (wl_val hl rfl trivial (r_indexS hl rfl rfl slc122 (by omega) (by omega) (by first | (simp only [Int.reduceToNat]; rfl) | exact toNat_add1 _ | exact toNat_add2 _ _ | exact toNat_emod _ _ | exact Int.toNat_natCast _ | rfl)) ?_)
            clear hl a; intro a hl
            first | refine wl (w_load hl hh rfl trivial one70 rfl (by repeat (first | exact find_head | apply find_tail | apply find_skip)) (by first | rfl) ?_) | refine wl (wl_val hl rfl trivial (r_load hl rfl one70 (hh.mem _ _ (by repeat (first | exact hb1m | exact List.mem_append_left _ hb1m | apply List.mem_cons_of_mem | apply List.mem_append_right))) (List.getElem?_toArray.trans hd1)) ?_) | refine wl (wl_val hl rfl trivial (r_load hl rfl one70 (hh.mem _ _ (by repeat (first | exact hb2m | exact List.mem_append_left _ hb2m | apply List.mem_cons_of_mem | apply List.mem_append_right))) (List.getElem?_toArray.trans hd2)) ?_) | refine wl (wl_val hl rfl trivial (r_load hl rfl one70 (hh.mem _ _ (by repeat (first | exact hb3m | exact List.mem_append_left _ hb3m | apply List.mem_cons_of_mem | apply List.mem_append_right))) (List.getElem?_toArray.trans hd3)) ?_) | refine wl (wl_val hl rfl trivial (r_load hl rfl one70 (hh.mem _ _ (by repeat (first | exact hmemS | exact List.mem_append_left _ hmemS | apply List.mem_cons_of_mem | apply List.mem_append_right))) (List.getElem?_toArray.trans hd4)) ?_) | refine wl (wl_val hl rfl trivial (r_load hl rfl one70 (hh.mem _ _ (by repeat (first | exact hb4m | exact List.mem_append_left _ hb4m | apply List.mem_cons_of_mem | apply List.mem_append_right))) (List.getElem?_toArray.trans hd6)) ?_) | refine wl (wl_val hl rfl trivial (r_load hl rfl one70 (hh.mem _ _ (by repeat (first | exact hmemO | exact List.mem_append_left _ hmemO | apply List.mem_cons_of_mem | apply List.mem_append_right))) (List.getElem?_toArray.trans hd7)) ?_)
            clear hl a; intro a hl
            refine wl (wl_val hl rfl trivial (r_assign hl rfl) ?_)
            clear hl a; intro a hl
            refine w_nil ?_
            have hl2 := hl.add (t := 2) (hl.add (t := 3) (hl.add (t := 5) (hl.add (t := 6) (hl.add (t := 7) (hl.add (t := 9) (hl.add (t := 11) (hl.add (t := 61) (hl.add (t := 62) (hl.add (t := 63) (hl.nil) rfl) rfl) rfl) rfl) rfl) rfl) rfl) rfl) rfl) rfl; clear hl; have hl := hl2; clear hl2
            refine then_normal ?_
            refine c_seq ?_
            refine c_region ?_
            refine wl (w_makeMap (kInt .i64) hl hh rfl trivial ?_)
            clear hl hh a w; intro k67 a w hl hh
            refine wl (wl_val hl rfl trivial (r_assign hl rfl) ?_)
            clear hl a; intro a hl
            refine w_nil ?_
            have hl2 := hl.add (t := 2) (hl.add (t := 3) (hl.add (t := 5) (hl.add (t := 6) (hl.add (t := 7) (hl.add (t := 9) (hl.add (t := 11) (hl.add (t := 12) (hl.add (t := 61) (hl.add (t := 62) (hl.add (t := 63) (hl.nil) rfl) rfl) rfl) rfl) rfl) rfl) rfl) rfl) rfl) rfl) rfl; clear hl; have hl := hl2; clear hl2
            refine then_normal ?_
            refine c_seq ?_
            refine c_seq ?_
            refine c_region ?_
            refine wl (wl_val hl rfl trivial (r_move hl rfl) ?_)
            clear hl a; intro a hl
            refine wl (wl_val hl rfl trivial (r_lenS hl rfl slc70) ?_)
            clear hl a; intro a hl
            refine wl (wl_val hl rfl trivial (r_move hl rfl) ?_)
            clear hl a; intro a hl
            refine w_nil ?_
            have hl2 := hl.add (t := 2) (hl.add (t := 3) (hl.add (t := 5) (hl.add (t := 6) (hl.add (t := 7) (hl.add (t := 9) (hl.add (t := 11) (hl.add (t := 12) (hl.add (t := 61) (hl.add (t := 62) (hl.add (t := 63) (hl.add (t := 68) (hl.add (t := 69) (hl.add (t := 70) (hl.nil) rfl) rfl) rfl) rfl) rfl) rfl) rfl) rfl) rfl) rfl) rfl) rfl) rfl) rfl; clear hl; have hl := hl2; clear hl2
            refine then_normal ?_
            refine wp_block ?_
            obtain ⟨KS2, hKS2, hk⟩ := (hl.add (t := 2) (hl.add (t := 3) (hl.add (t := 5) (hl.add (t := 6) (hl.add (t := 7) (hl.add (t := 9) (hl.add (t := 11) (hl.add (t := 12) (hl.add (t := 61) (hl.add (t := 62) (hl.add (t := 63) (hl.add (t := 68) (hl.add (t := 69) (hl.nil) rfl) rfl) rfl) rfl) rfl) rfl) rfl) rfl) rfl) rfl) rfl) rfl) rfl).name
            obtain ⟨HS2, hHS2, hh2⟩ := hh.name (keeps_cons (b := k67) (o' := MO (kInt .i64) []) (by repeat (first | exact find_head | apply find_tail | apply find_skip)) (by first | rfl) (keeps_nil))
            refine c_loop (α := Nat) (fun j => (vars r.ru).length - j) (fun j a w => (j ≤ (vars r.ru).length) ∧ Sl 164 ([(70, .int .i64 (j : Int))] ++ KS2) a ∧ Has _ w0 ([(k67, MO (kInt .i64) (mm ((zpA r.ru t.ru s.l).take j)))] ++ HS2) w) 0 ⟨(Nat.zero_le _), hl.addE (t := 70) (hk) rfl (by first | rfl), hh2⟩ ?_
            clear hk hh2 hl hh a w
            intro j a w hI
            obtain ⟨hj, hl, hh⟩ := hI
            subst hKS2; subst hHS2
            simp only [List.cons_append, List.nil_append, List.append_nil, List.append_assoc] at hl hh
            refine c_seq ?_
            refine c_region ?_
            refine wl (wl_val hl rfl trivial (r_lss hl rfl rfl) ?_)
            clear hl a; intro a hl
            refine w_nil ?_
            have hl2 := hl.add (t := 2) (hl.add (t := 3) (hl.add (t := 5) (hl.add (t := 6) (hl.add (t := 7) (hl.add (t := 9) (hl.add (t := 11) (hl.add (t := 12) (hl.add (t := 61) (hl.add (t := 62) (hl.add (t := 63) (hl.add (t := 68) (hl.add (t := 69) (hl.add (t := 70) (hl.add (t := 71) (hl.nil) rfl) rfl) rfl) rfl) rfl) rfl) rfl) rfl) rfl) rfl) rfl) rfl) rfl) rfl) rfl; clear hl; have hl := hl2; clear hl2
            refine then_normal ?_
            refine c_seq ?_
            refine c_cond hl rfl ?_ ?_
            · intro hc3
              try simp only [decide_eq_true_eq, decide_eq_false_iff_not, Bool.not_eq_true', Bool.not_eq_false', Bool.not_eq_true, Bool.not_eq_false, Bool.and_eq_true, Bool.or_eq_true, Bool.and_eq_false_iff, Bool.or_eq_false_iff, Bool.not_not, ne_eq, Int.not_lt, Int.not_le, Decidable.not_not, beq_iff_eq, bne_iff_ne] at hc3
              obtain ⟨v, hvv⟩ : ∃ v, (vars r.ru)[j]? = some v := ⟨_, List.getElem?_eq_getElem (by omega)⟩
              obtain ⟨q, hq⟩ : ∃ q, s.l[j]? = some q := ⟨_, List.getElem?_eq_getElem (by omega)⟩
              have hqr := hsr q (List.mem_of_getElem? hq)
              obtain ⟨qn, rfl⟩ : ∃ n : Nat, q = (n : Int) := ⟨q.toNat, by omega⟩
              obtain ⟨y, hy⟩ : ∃ y, (vars t.ru)[qn]? = some y := ⟨_, List.getElem?_eq_getElem (by omega)⟩
              have hpk := pick_at hsr hq (show (vars t.ru)[((qn : Int)).toNat]? = some y from hy)
              have hnew := zp_new (b := t.ru) (pr := s.l) hvv (by omega)
              obtain ⟨b2, j2, hq2, _, _, hq2E⟩ := row_pos hRv (by omega)
              have hb2m : (b2, C (fl iI (vars r.ru) ++ j2) 3) ∈ Ev := by rw [hq2E]; exact List.mem_singleton.2 rfl
              obtain ⟨b3, j3, hq3, _, _, hq3E⟩ := row_pos hRu (by omega)
              have hb3m : (b3, C (fl iI (vars t.ru) ++ j3) 3) ∈ Eu := by rw [hq3E]; exact List.mem_singleton.2 rfl
              rw [hq2, hq3] at hl
              have hd2 := fl_cell1 (f := iI) (g := .int .i64) (fun _ => rfl) hvv j2
              have hd3 := fl_cell1 (f := iI) (g := .int .i64) (fun _ => rfl) hy j3
              have hd4 := fl_cell1 (f := iI) (g := .int .i64) (fun _ => rfl) hq s.j
              refine wp_skip ?_
              refine then_normal ?_
              refine c_seq ?_
              refine wp_block ?_
              refine c_seq ?_
              refine c_region ?_
              refine wl (wl_val hl rfl trivial (r_move hl rfl) ?_)
              clear hl a; intro a hl
              refine wl (wl_val hl rfl trivial (r_indexS hl rfl rfl slc70 (by omega) (by omega) (by first | (simp only [Int.reduceToNat]; rfl) | exact toNat_add1 _ | exact toNat_add2 _ _ | exact toNat_emod _ _ | exact Int.toNat_natCast _ | rfl)) ?_)
              clear hl a; intro a hl
              first | refine wl (w_load hl hh rfl trivial one3 rfl (by repeat (first | exact find_head | apply find_tail | apply find_skip)) (by rfl) ?_) | refine wl (wl_val hl rfl trivial (r_load hl rfl one3 (hh.mem _ _ (by repeat (first | exact hb1m | exact List.mem_append_left _ hb1m | apply List.mem_cons_of_mem | apply List.mem_append_right))) (List.getElem?_toArray.trans hd1)) ?_) | refine wl (wl_val hl rfl trivial (r_load hl rfl one3 (hh.mem _ _ (by repeat (first | exact hb2m | exact List.mem_append_left _ hb2m | apply List.mem_cons_of_mem | apply List.mem_append_right))) (List.getElem?_toArray.trans hd2)) ?_) | refine wl (wl_val hl rfl trivial (r_load hl rfl one3 (hh.mem _ _ (by repeat (first | exact hb3m | exact List.mem_append_left _ hb3m | apply List.mem_cons_of_mem | apply List.mem_append_right))) (List.getElem?_toArray.trans hd3)) ?_) | refine wl (wl_val hl rfl trivial (r_load hl rfl one3 (hh.mem _ _ (by repeat (first | exact hmemS | exact List.mem_append_left _ hmemS | apply List.mem_cons_of_mem | apply List.mem_append_right))) (List.getElem?_toArray.trans hd4)) ?_) | refine wl (wl_val hl rfl trivial (r_load hl rfl one3 (hh.mem _ _ (by repeat (first | exact hb4m | exact List.mem_append_left _ hb4m | apply List.mem_cons_of_mem | apply List.mem_append_right))) (List.getElem?_toArray.trans hd6)) ?_) | refine wl (wl_val hl rfl trivial (r_load hl rfl one3 (hh.mem _ _ (by repeat (first | exact hmemO | exact List.mem_append_left _ hmemO | apply List.mem_cons_of_mem | apply List.mem_append_right))) (List.getElem?_toArray.trans hd7)) ?_)
              clear hl a; intro a hl
              refine wl (wl_val hl rfl trivial (r_assign hl rfl) ?_)
              clear hl a; intro a hl
              refine wl (wl_val hl rfl trivial (r_assign hl rfl) ?_)
              clear hl a; intro a hl
              refine w_nil ?_
              have hl2 := hl.add (t := 2) (hl.add (t := 3) (hl.add (t := 5) (hl.add (t := 6) (hl.add (t := 7) (hl.add (t := 9) (hl.add (t := 11) (hl.add (t := 12) (hl.add (t := 13) (hl.add (t := 14) (hl.add (t := 61) (hl.add (t := 62) (hl.add (t := 63) (hl.add (t := 68) (hl.add (t := 69) (hl.add (t := 70) (hl.nil) rfl) rfl) rfl) rfl) rfl) rfl) rfl) rfl) rfl) rfl) rfl) rfl) rfl) rfl) rfl) rfl; clear hl; have hl := hl2; clear hl2
              refine then_normal ?_
              refine c_region ?_
              refine wl (wl_val hl rfl trivial (r_move hl rfl) ?_)
              clear hl a; intro a hl
              refine wl (wl_val hl rfl trivial (r_move hl rfl) ?_)
              clear hl a; intro a hl
              refine wl (wl_val hl rfl trivial (r_move hl rfl) ?_)
              clear hl a; intro a hl
              refine wl (wl_val hl rfl trivial (r_move hl rfl) ?_)
              clear hl a; intro a hl
              refine wl (wl_val hl rfl trivial (r_move hl rfl) ?_)
              clear hl a; intro a hl
              refine wl (wl_val hl rfl trivial (r_indexS hl rfl rfl slc70 (by omega) (by omega) (by first | (simp only [Int.reduceToNat]; rfl) | exact toNat_add1 _ | exact toNat_add2 _ _ | exact toNat_emod _ _ | exact Int.toNat_natCast _ | rfl)) ?_)
              clear hl a; intro a hl
              first | refine wl (w_load hl hh rfl trivial one3 rfl (by repeat (first | exact find_head | apply find_tail | apply find_skip)) (by rfl) ?_) | refine wl (wl_val hl rfl trivial (r_load hl rfl one3 (hh.mem _ _ (by repeat (first | exact hb1m | exact List.mem_append_left _ hb1m | apply List.mem_cons_of_mem | apply List.mem_append_right))) (List.getElem?_toArray.trans hd1)) ?_) | refine wl (wl_val hl rfl trivial (r_load hl rfl one3 (hh.mem _ _ (by repeat (first | exact hb2m | exact List.mem_append_left _ hb2m | apply List.mem_cons_of_mem | apply List.mem_append_right))) (List.getElem?_toArray.trans hd2)) ?_) | refine wl (wl_val hl rfl trivial (r_load hl rfl one3 (hh.mem _ _ (by repeat (first | exact hb3m | exact List.mem_append_left _ hb3m | apply List.mem_cons_of_mem | apply List.mem_append_right))) (List.getElem?_toArray.trans hd3)) ?_) | refine wl (wl_val hl rfl trivial (r_load hl rfl one3 (hh.mem _ _ (by repeat (first | exact hmemS | exact List.mem_append_left _ hmemS | apply List.mem_cons_of_mem | apply List.mem_append_right))) (List.getElem?_toArray.trans hd4)) ?_) | refine wl (wl_val hl rfl trivial (r_load hl rfl one3 (hh.mem _ _ (by repeat (first | exact hb4m | exact List.mem_append_left _ hb4m | apply List.mem_cons_of_mem | apply List.mem_append_right))) (List.getElem?_toArray.trans hd6)) ?_) | refine wl (wl_val hl rfl trivial (r_load hl rfl one3 (hh.mem _ _ (by repeat (first | exact hmemO | exact List.mem_append_left _ hmemO | apply List.mem_cons_of_mem | apply List.mem_append_right))) (List.getElem?_toArray.trans hd7)) ?_)
              clear hl a; intro a hl
              refine wl (wl_val hl rfl trivial (r_indexS hl rfl rfl slc70 (by omega) (by omega) (by first | (simp only [Int.reduceToNat]; rfl) | exact toNat_add1 _ | exact toNat_add2 _ _ | exact toNat_emod _ _ | exact Int.toNat_natCast _ | rfl)) ?_)
              clear hl a; intro a hl
              first | refine wl (w_load hl hh rfl trivial one3 rfl (by repeat (first | exact find_head | apply find_tail | apply find_skip)) (by rfl) ?_) | refine wl (wl_val hl rfl trivial (r_load hl rfl one3 (hh.mem _ _ (by repeat (first | exact hb1m | exact List.mem_append_left _ hb1m | apply List.mem_cons_of_mem | apply List.mem_append_right))) (List.getElem?_toArray.trans hd1)) ?_) | refine wl (wl_val hl rfl trivial (r_load hl rfl one3 (hh.mem _ _ (by repeat (first | exact hb2m | exact List.mem_append_left _ hb2m | apply List.mem_cons_of_mem | apply List.mem_append_right))) (List.getElem?_toArray.trans hd2)) ?_) | refine wl (wl_val hl rfl trivial (r_load hl rfl one3 (hh.mem _ _ (by repeat (first | exact hb3m | exact List.mem_append_left _ hb3m | apply List.mem_cons_of_mem | apply List.mem_append_right))) (List.getElem?_toArray.trans hd3)) ?_) | refine wl (wl_val hl rfl trivial (r_load hl rfl one3 (hh.mem _ _ (by repeat (first | exact hmemS | exact List.mem_append_left _ hmemS | apply List.mem_cons_of_mem | apply List.mem_append_right))) (List.getElem?_toArray.trans hd4)) ?_) | refine wl (wl_val hl rfl trivial (r_load hl rfl one3 (hh.mem _ _ (by repeat (first | exact hb4m | exact List.mem_append_left _ hb4m | apply List.mem_cons_of_mem | apply List.mem_append_right))) (List.getElem?_toArray.trans hd6)) ?_) | refine wl (wl_val hl rfl trivial (r_load hl rfl one3 (hh.mem _ _ (by repeat (first | exact hmemO | exact List.mem_append_left _ hmemO | apply List.mem_cons_of_mem | apply List.mem_append_right))) (List.getElem?_toArray.trans hd7)) ?_)
              clear hl a; intro a hl
              refine wl (w_mapUpdate (keyInt Tryd.underlying3) Tryd.underlying124 hl hh trivial rfl rfl rfl (by repeat (first | exact find_head | apply find_tail | apply find_skip)) ?_)
              clear hh w; intro w hh
              refine w_nil ?_
              have hl2 := hl.add (t := 2) (hl.add (t := 3) (hl.add (t := 5) (hl.add (t := 6) (hl.add (t := 7) (hl.add (t := 9) (hl.add (t := 11) (hl.add (t := 12) (hl.add (t := 61) (hl.add (t := 62) (hl.add (t := 63) (hl.add (t := 68) (hl.add (t := 69) (hl.add (t := 70) (hl.nil) rfl) rfl) rfl) rfl) rfl) rfl) rfl) rfl) rfl) rfl) rfl) rfl) rfl) rfl; clear hl; have hl := hl2; clear hl2
              rw [mput_mm hnew, ← zp_snoc hvv hpk] at hh
              refine blk_normal ?_
              refine then_normal ?_
              refine c_region ?_
              first | refine wl (wl_val hl rfl trivial (r_add hl rfl rfl (by simp only [Fits]; omega)) ?_) | refine wl (wl_val hl rfl trivial (r_addW hl rfl rfl) ?_)
              clear hl a; intro a hl
              refine wl (wl_val hl rfl trivial (r_move hl rfl) ?_)
              clear hl a; intro a hl
              refine w_nil ?_
              have hl2 := hl.add (t := 2) (hl.add (t := 3) (hl.add (t := 5) (hl.add (t := 6) (hl.add (t := 7) (hl.add (t := 9) (hl.add (t := 11) (hl.add (t := 12) (hl.add (t := 61) (hl.add (t := 62) (hl.add (t := 63) (hl.add (t := 68) (hl.add (t := 69) (hl.add (t := 70) (hl.nil) rfl) rfl) rfl) rfl) rfl) rfl) rfl) rfl) rfl) rfl) rfl) rfl) rfl) rfl; clear hl; have hl := hl2; clear hl2
              refine then_normal ?_
              refine ⟨j + 1, (by omega), (by omega), hl.addE (t := 70) (hl.addE (t := 2) (hl.addE (t := 3) (hl.addE (t := 5) (hl.addE (t := 6) (hl.addE (t := 7) (hl.addE (t := 9) (hl.addE (t := 11) (hl.addE (t := 12) (hl.addE (t := 61) (hl.addE (t := 62) (hl.addE (t := 63) (hl.addE (t := 68) (hl.addE (t := 69) (hl.nil) rfl (by first | rfl | exact congrArg (Value.int .i64) (show (j : Int) + 1 = ((j + 1 : Nat) : Int) by omega) | (rw [hq2]) | (rw [hq3]))) rfl (by first | rfl | exact congrArg (Value.int .i64) (show (j : Int) + 1 = ((j + 1 : Nat) : Int) by omega) | (rw [hq2]) | (rw [hq3]))) rfl (by first | rfl | exact congrArg (Value.int .i64) (show (j : Int) + 1 = ((j + 1 : Nat) : Int) by omega) | (rw [hq2]) | (rw [hq3]))) rfl (by first | rfl | exact congrArg (Value.int .i64) (show (j : Int) + 1 = ((j + 1 : Nat) : Int) by omega) | (rw [hq2]) | (rw [hq3]))) rfl (by first | rfl | exact congrArg (Value.int .i64) (show (j : Int) + 1 = ((j + 1 : Nat) : Int) by omega) | (rw [hq2]) | (rw [hq3]))) rfl (by first | rfl | exact congrArg (Value.int .i64) (show (j : Int) + 1 = ((j + 1 : Nat) : Int) by omega) | (rw [hq2]) | (rw [hq3]))) rfl (by first | rfl | exact congrArg (Value.int .i64) (show (j : Int) + 1 = ((j + 1 : Nat) : Int) by omega) | (rw [hq2]) | (rw [hq3]))) rfl (by first | rfl | exact congrArg (Value.int .i64) (show (j : Int) + 1 = ((j + 1 : Nat) : Int) by omega) | (rw [hq2]) | (rw [hq3]))) rfl (by first | rfl | exact congrArg (Value.int .i64) (show (j : Int) + 1 = ((j + 1 : Nat) : Int) by omega) | (rw [hq2]) | (rw [hq3]))) rfl (by first | rfl | exact congrArg (Value.int .i64) (show (j : Int) + 1 = ((j + 1 : Nat) : Int) by omega) | (rw [hq2]) | (rw [hq3]))) rfl (by first | rfl | exact congrArg (Value.int .i64) (show (j : Int) + 1 = ((j + 1 : Nat) : Int) by omega) | (rw [hq2]) | (rw [hq3]))) rfl (by first | rfl | exact congrArg (Value.int .i64) (show (j : Int) + 1 = ((j + 1 : Nat) : Int) by omega) | (rw [hq2]) | (rw [hq3]))) rfl (by first | rfl | exact congrArg (Value.int .i64) (show (j : Int) + 1 = ((j + 1 : Nat) : Int) by omega) | (rw [hq2]) | (rw [hq3]))) rfl (by first | rfl | exact congrArg (Value.int .i64) (show (j : Int) + 1 = ((j + 1 : Nat) : Int) by omega) | (rw [hq2]) | (rw [hq3])), hh.keep (by repeat (first | exact keeps_nil | apply keeps_cons (by repeat (first | exact find_head | apply find_tail | apply find_skip)) (by first  | rfl) | exact keeps_self | exact keeps_left | apply keeps_app | apply keeps_mv | apply keeps_skip))⟩
            · intro hc3
              try simp only [decide_eq_true_eq, decide_eq_false_iff_not, Bool.not_eq_true', Bool.not_eq_false', Bool.not_eq_true, Bool.not_eq_false, Bool.and_eq_true, Bool.or_eq_true, Bool.and_eq_false_iff, Bool.or_eq_false_iff, Bool.not_not, ne_eq, Int.not_lt, Int.not_le, Decidable.not_not, beq_iff_eq, bne_iff_ne] at hc3
              have hje : j = (vars r.ru).length := by omega
              rw [zp_end hje] at hh
              refine wp_exit ?_
              refine then_exit ?_
              refine then_exit ?_
              refine blk_exit ?_
              refine then_normal ?_
              refine c_seq ?_
              refine c_region ?_
              refine wl (w_loadA hl hh rfl trivial agg35 rfl (by repeat (first | exact find_head | apply find_tail | apply find_skip)) (by first | exact hd5 | exact hd8 | (simp only [List.getElem?_cons_zero, List.getElem?_cons_succ, Value.cells, List.take_zero, List.take_succ_cons, List.take_nil, List.drop_zero, List.drop_succ_cons, List.drop_nil, List.length_cons, List.length_nil, List.cons_append, List.nil_append, List.append_nil, Nat.zero_add, Nat.add_zero, Nat.reduceAdd, Nat.reduceBEq, Nat.reduceEqDiff, Nat.ble, BEq.rfl, Bool.and_true, Bool.and_self, cond_true, beq_self_eq_true]; rfl)) (by first | rfl | (simp; done)) ?_)
              clear hl a; intro a hl
              refine wl (wl_val hl rfl trivial (r_move hl rfl) ?_)
              clear hl a; intro a hl
              refine wl (wl_val hl rfl trivial (r_move hl rfl) ?_)
              clear hl a; intro a hl
              refine wl (w_call hl hh rfl trivial rfl cal57 rfl (hsp k67 (zpA r.ru t.ru s.l) (zp_i64 ht s.l)) (by repeat (first | exact keeps_nil | apply keeps_cons (by repeat (first | exact find_head | apply find_tail | apply find_skip)) (by first  | rfl) | exact keeps_self | exact keeps_left | apply keeps_app | apply keeps_mv | apply keeps_skip)) ⟨mem_keep hh hpre.1, fun b o m => (by rw [List.mem_singleton] at m; cases m; exact hh.mem _ _ (Find.mem (by repeat (first | exact find_head | apply find_tail | apply find_skip)))), hh.mem _ _ (Find.mem (by repeat (first | exact find_head | apply find_tail | apply find_skip)))⟩ ?_)
              clear hl hh a w; intro vc Fc a w hR hl hh
              obtain ⟨r', hr', hru, rfl, rfl⟩ := hR
              try simp only [List.cons_append, List.nil_append, List.append_assoc, List.append_nil] at hh
              have hrn := rnm_of hru
              have hrl2 := hr'.len
              refine wl (w_alloc hl hh rfl trivial zero35 rfl ?_)
              clear hl hh a w; intro k15 a w hl hh
              refine wl (w_storeA hl hh trivial agg35 rfl rfl (by repeat (first | exact find_head | apply find_tail | apply find_skip)) (by first | rfl | (simp; done) | exact hd5 | exact hd8) (by first | (simp; done) | (simp; omega)) (by first | rfl | (simp; done) | rfl) (by first | (simp only [setL, List.getElem?_cons_zero, List.getElem?_cons_succ, Value.cells, List.take_zero, List.take_succ_cons, List.take_nil, List.drop_zero, List.drop_succ_cons, List.drop_nil, List.length_cons, List.length_nil, List.cons_append, List.nil_append, List.append_nil, Nat.zero_add, Nat.add_zero, Nat.reduceAdd, Nat.reduceBEq, Nat.reduceEqDiff, Nat.ble, BEq.rfl, Bool.and_true, Bool.and_self, cond_true, beq_self_eq_true]; rfl)) ?_)
              clear hh w; intro w hh
              refine w_nil ?_
              have hl2 := hl.add (t := 2) (hl.add (t := 3) (hl.add (t := 5) (hl.add (t := 6) (hl.add (t := 7) (hl.add (t := 9) (hl.add (t := 15) (hl.add (t := 61) (hl.add (t := 62) (hl.add (t := 63) (hl.nil) rfl) rfl) rfl) rfl) rfl) rfl) rfl) rfl) rfl) rfl; clear hl; have hl := hl2; clear hl2
              refine then_normal ?_
              refine c_seq ?_
              refine c_seq ?_
              refine c_region ?_
              refine wl (wl_val hl rfl trivial (r_field hl rfl fld35_0) ?_)
              clear hl a; intro a hl
              refine wl (wl_val hl rfl trivial (r_field hl rfl fld32_0) ?_)
              clear hl a; intro a hl
              first | refine wl (w_load hl hh rfl trivial one9 rfl (by repeat (first | exact find_head | apply find_tail | apply find_skip)) (by first | rfl) ?_) | refine wl (wl_val hl rfl trivial (r_load hl rfl one9 (hh.mem _ _ (by repeat (first | exact hb1m | exact List.mem_append_left _ hb1m | apply List.mem_cons_of_mem | apply List.mem_append_right))) (List.getElem?_toArray.trans hd1)) ?_) | refine wl (wl_val hl rfl trivial (r_load hl rfl one9 (hh.mem _ _ (by repeat (first | exact hb2m | exact List.mem_append_left _ hb2m | apply List.mem_cons_of_mem | apply List.mem_append_right))) (List.getElem?_toArray.trans hd2)) ?_) | refine wl (wl_val hl rfl trivial (r_load hl rfl one9 (hh.mem _ _ (by repeat (first | exact hb3m | exact List.mem_append_left _ hb3m | apply List.mem_cons_of_mem | apply List.mem_append_right))) (List.getElem?_toArray.trans hd3)) ?_) | refine wl (wl_val hl rfl trivial (r_load hl rfl one9 (hh.mem _ _ (by repeat (first | exact hmemS | exact List.mem_append_left _ hmemS | apply List.mem_cons_of_mem | apply List.mem_append_right))) (List.getElem?_toArray.trans hd4)) ?_) | refine wl (wl_val hl rfl trivial (r_load hl rfl one9 (hh.mem _ _ (by repeat (first | exact hb4m | exact List.mem_append_left _ hb4m | apply List.mem_cons_of_mem | apply List.mem_append_right))) (List.getElem?_toArray.trans hd6)) ?_) | refine wl (wl_val hl rfl trivial (r_load hl rfl one9 (hh.mem _ _ (by repeat (first | exact hmemO | exact List.mem_append_left _ hmemO | apply List.mem_cons_of_mem | apply List.mem_append_right))) (List.getElem?_toArray.trans hd7)) ?_)
              clear hl a; intro a hl
              refine wl (wl_val hl rfl trivial (r_field hl rfl fld35_0) ?_)
              clear hl a; intro a hl
              refine wl (wl_val hl rfl trivial (r_field hl rfl fld32_0) ?_)
              clear hl a; intro a hl
              first | refine wl (w_load hl hh rfl trivial one9 rfl (by repeat (first | exact find_head | apply find_tail | apply find_skip)) (by first | rfl) ?_) | refine wl (wl_val hl rfl trivial (r_load hl rfl one9 (hh.mem _ _ (by repeat (first | exact hb1m | exact List.mem_append_left _ hb1m | apply List.mem_cons_of_mem | apply List.mem_append_right))) (List.getElem?_toArray.trans hd1)) ?_) | refine wl (wl_val hl rfl trivial (r_load hl rfl one9 (hh.mem _ _ (by repeat (first | exact hb2m | exact List.mem_append_left _ hb2m | apply List.mem_cons_of_mem | apply List.mem_append_right))) (List.getElem?_toArray.trans hd2)) ?_) | refine wl (wl_val hl rfl trivial (r_load hl rfl one9 (hh.mem _ _ (by repeat (first | exact hb3m | exact List.mem_append_left _ hb3m | apply List.mem_cons_of_mem | apply List.mem_append_right))) (List.getElem?_toArray.trans hd3)) ?_) | refine wl (wl_val hl rfl trivial (r_load hl rfl one9 (hh.mem _ _ (by repeat (first | exact hmemS | exact List.mem_append_left _ hmemS | apply List.mem_cons_of_mem | apply List.mem_append_right))) (List.getElem?_toArray.trans hd4)) ?_) | refine wl (wl_val hl rfl trivial (r_load hl rfl one9 (hh.mem _ _ (by repeat (first | exact hb4m | exact List.mem_append_left _ hb4m | apply List.mem_cons_of_mem | apply List.mem_append_right))) (List.getElem?_toArray.trans hd6)) ?_) | refine wl (wl_val hl rfl trivial (r_load hl rfl one9 (hh.mem _ _ (by repeat (first | exact hmemO | exact List.mem_append_left _ hmemO | apply List.mem_cons_of_mem | apply List.mem_append_right))) (List.getElem?_toArray.trans hd7)) ?_)
              clear hl a; intro a hl
              refine wl (wl_val hl rfl trivial (r_neq_string hl rfl rfl) ?_)
              clear hl a; intro a hl
              refine wl (wl_val hl rfl trivial (r_move hl rfl) ?_)
              clear hl a; intro a hl
              refine sl_split (t := 96) hl rfl ?_ ?_
              · intro hg2; clear hl; intro hl
                try simp only [decide_eq_true_eq, decide_eq_false_iff_not, Bool.not_eq_true', Bool.not_eq_false', Bool.not_eq_true, Bool.not_eq_false, Bool.and_eq_true, Bool.or_eq_true, Bool.and_eq_false_iff, Bool.or_eq_false_iff, Bool.not_not, ne_eq, Int.not_lt, Int.not_le, Decidable.not_not, beq_iff_eq, bne_iff_ne] at hg2
                refine wl (wl_skip hl rfl ⟨_, _, rfl, rfl, rfl⟩ ?_)
                clear hl a; intro a hl
                refine wl (wl_skip hl rfl ⟨_, _, rfl, rfl, rfl⟩ ?_)
                clear hl a; intro a hl
                refine wl (wl_skip hl rfl ⟨_, _, rfl, rfl, rfl⟩ ?_)
                clear hl a; intro a hl
                refine wl (wl_skip hl rfl ⟨_, _, rfl, rfl, rfl⟩ ?_)
                clear hl a; intro a hl
                refine wl (wl_skip hl rfl ⟨_, _, rfl, rfl, rfl⟩ ?_)
                clear hl a; intro a hl
                refine wl (wl_skip hl rfl ⟨_, _, rfl, rfl, rfl⟩ ?_)
                clear hl a; intro a hl
                refine wl (wl_skip hl rfl ⟨_, _, rfl, rfl, rfl⟩ ?_)
                clear hl a; intro a hl
                refine wl (wl_skip hl rfl ⟨_, _, rfl, rfl, rfl⟩ ?_)
                clear hl a; intro a hl
                refine wl (wl_val hl rfl trivial (r_pickT hl rfl rfl) ?_)
                clear hl a; intro a hl
                refine w_nil ?_
                have hl2 := hl.add (t := 2) (hl.add (t := 3) (hl.add (t := 5) (hl.add (t := 6) (hl.add (t := 7) (hl.add (t := 9) (hl.add (t := 15) (hl.add (t := 61) (hl.add (t := 62) (hl.add (t := 63) (hl.add (t := 105) (hl.nil) rfl) rfl) rfl) rfl) rfl) rfl) rfl) rfl) rfl) rfl) rfl; clear hl; have hl := hl2; clear hl2
                refine then_normal ?_
                refine c_condT hl rfl ?_
                have hno : NoM r.ru t.ru s.l := by
                  first
                  | exact fun h9 => by_f (by assumption) (hrn.p.trans h9.1.p)
                  | exact fun h9 => absurd (hrn.a.trans h9.1.a) (by assumption)
                refine wp_exit ?_
                refine then_exit ?_
                refine blk_exit ?_
                refine then_normal ?_
                refine c_region ?_
                first | refine wl (wl_val hl rfl trivial (r_add hl rfl rfl (by simp only [Fits]; omega)) ?_) | refine wl (wl_val hl rfl trivial (r_addW hl rfl rfl) ?_)
                clear hl a; intro a hl
                refine wl (wl_val hl rfl trivial (r_move hl rfl) ?_)
                clear hl a; intro a hl
                refine w_nil ?_
                have hl2 := hl.add (t := 2) (hl.add (t := 3) (hl.add (t := 5) (hl.add (t := 6) (hl.add (t := 7) (hl.add (t := 9) (hl.add (t := 61) (hl.add (t := 62) (hl.add (t := 63) (hl.nil) rfl) rfl) rfl) rfl) rfl) rfl) rfl) rfl) rfl; clear hl; have hl := hl2; clear hl2
                refine then_normal ?_
                refine ⟨i1 + 1, (by omega), ⟨by omega, take_next hI1 hsn hno⟩, hl.addE (t := 63) (hl.addE (t := 2) (hl.addE (t := 3) (hl.addE (t := 5) (hl.addE (t := 6) (hl.addE (t := 7) (hl.addE (t := 9) (hl.addE (t := 61) (hl.addE (t := 62) (hl.nil) rfl (by first | rfl | exact congrArg (Value.int .i64) (show (i1 : Int) + 1 = ((i1 + 1 : Nat) : Int) by omega) | (rw [hq1]))) rfl (by first | rfl | exact congrArg (Value.int .i64) (show (i1 : Int) + 1 = ((i1 + 1 : Nat) : Int) by omega) | (rw [hq1]))) rfl (by first | rfl | exact congrArg (Value.int .i64) (show (i1 : Int) + 1 = ((i1 + 1 : Nat) : Int) by omega) | (rw [hq1]))) rfl (by first | rfl | exact congrArg (Value.int .i64) (show (i1 : Int) + 1 = ((i1 + 1 : Nat) : Int) by omega) | (rw [hq1]))) rfl (by first | rfl | exact congrArg (Value.int .i64) (show (i1 : Int) + 1 = ((i1 + 1 : Nat) : Int) by omega) | (rw [hq1]))) rfl (by first | rfl | exact congrArg (Value.int .i64) (show (i1 : Int) + 1 = ((i1 + 1 : Nat) : Int) by omega) | (rw [hq1]))) rfl (by first | rfl | exact congrArg (Value.int .i64) (show (i1 : Int) + 1 = ((i1 + 1 : Nat) : Int) by omega) | (rw [hq1]))) rfl (by first | rfl | exact congrArg (Value.int .i64) (show (i1 : Int) + 1 = ((i1 + 1 : Nat) : Int) by omega) | (rw [hq1]))) rfl (by first | rfl | exact congrArg (Value.int .i64) (show (i1 : Int) + 1 = ((i1 + 1 : Nat) : Int) by omega) | (rw [hq1])), hh.keep (by repeat (first | exact keeps_nil | apply keeps_cons (by repeat (first | exact find_head | apply find_tail | apply find_skip)) (by first  | rfl) | exact keeps_self | exact keeps_left | apply keeps_app | apply keeps_mv | apply keeps_skip))⟩
              · intro hg2; clear hl; intro hl
                try simp only [decide_eq_true_eq, decide_eq_false_iff_not, Bool.not_eq_true', Bool.not_eq_false', Bool.not_eq_true, Bool.not_eq_false, Bool.and_eq_true, Bool.or_eq_true, Bool.and_eq_false_iff, Bool.or_eq_false_iff, Bool.not_not, ne_eq, Int.not_lt, Int.not_le, Decidable.not_not, beq_iff_eq, bne_iff_ne] at hg2
                refine wl (wl_val hl rfl ⟨_, _, rfl, rfl, rfl⟩ (r_field hl rfl fld35_0) ?_)
                clear hl a; intro a hl
                refine wl (wl_val hl rfl ⟨_, _, rfl, rfl, rfl⟩ (r_field hl rfl fld32_1) ?_)
                clear hl a; intro a hl
                first | refine wl (w_load hl hh rfl ⟨_, _, rfl, rfl, rfl⟩ one30 rfl (by repeat (first | exact find_head | apply find_tail | apply find_skip)) (by first | rfl) ?_) | refine wl (wl_val hl rfl ⟨_, _, rfl, rfl, rfl⟩ (r_load hl rfl one30 (hh.mem _ _ (by repeat (first | exact hb1m | exact List.mem_append_left _ hb1m | apply List.mem_cons_of_mem | apply List.mem_append_right))) (List.getElem?_toArray.trans hd1)) ?_) | refine wl (wl_val hl rfl ⟨_, _, rfl, rfl, rfl⟩ (r_load hl rfl one30 (hh.mem _ _ (by repeat (first | exact hb2m | exact List.mem_append_left _ hb2m | apply List.mem_cons_of_mem | apply List.mem_append_right))) (List.getElem?_toArray.trans hd2)) ?_) | refine wl (wl_val hl rfl ⟨_, _, rfl, rfl, rfl⟩ (r_load hl rfl one30 (hh.mem _ _ (by repeat (first | exact hb3m | exact List.mem_append_left _ hb3m | apply List.mem_cons_of_mem | apply List.mem_append_right))) (List.getElem?_toArray.trans hd3)) ?_) | refine wl (wl_val hl rfl ⟨_, _, rfl, rfl, rfl⟩ (r_load hl rfl one30 (hh.mem _ _ (by repeat (first | exact hmemS | exact List.mem_append_left _ hmemS | apply List.mem_cons_of_mem | apply List.mem_append_right))) (List.getElem?_toArray.trans hd4)) ?_) | refine wl (wl_val hl rfl ⟨_, _, rfl, rfl, rfl⟩ (r_load hl rfl one30 (hh.mem _ _ (by repeat (first | exact hb4m | exact List.mem_append_left _ hb4m | apply List.mem_cons_of_mem | apply List.mem_append_right))) (List.getElem?_toArray.trans hd6)) ?_) | refine wl (wl_val hl rfl ⟨_, _, rfl, rfl, rfl⟩ (r_load hl rfl one30 (hh.mem _ _ (by repeat (first | exact hmemO | exact List.mem_append_left _ hmemO | apply List.mem_cons_of_mem | apply List.mem_append_right))) (List.getElem?_toArray.trans hd7)) ?_)
                clear hl a; intro a hl
                refine wl (wl_val hl rfl ⟨_, _, rfl, rfl, rfl⟩ (r_field hl rfl fld35_0) ?_)
                clear hl a; intro a hl
                refine wl (wl_val hl rfl ⟨_, _, rfl, rfl, rfl⟩ (r_field hl rfl fld32_1) ?_)
                clear hl a; intro a hl
                first | refine wl (w_load hl hh rfl ⟨_, _, rfl, rfl, rfl⟩ one30 rfl (by repeat (first | exact find_head | apply find_tail | apply find_skip)) (by first | rfl) ?_) | refine wl (wl_val hl rfl ⟨_, _, rfl, rfl, rfl⟩ (r_load hl rfl one30 (hh.mem _ _ (by repeat (first | exact hb1m | exact List.mem_append_left _ hb1m | apply List.mem_cons_of_mem | apply List.mem_append_right))) (List.getElem?_toArray.trans hd1)) ?_) | refine wl (wl_val hl rfl ⟨_, _, rfl, rfl, rfl⟩ (r_load hl rfl one30 (hh.mem _ _ (by repeat (first | exact hb2m | exact List.mem_append_left _ hb2m | apply List.mem_cons_of_mem | apply List.mem_append_right))) (List.getElem?_toArray.trans hd2)) ?_) | refine wl (wl_val hl rfl ⟨_, _, rfl, rfl, rfl⟩ (r_load hl rfl one30 (hh.mem _ _ (by repeat (first | exact hb3m | exact List.mem_append_left _ hb3m | apply List.mem_cons_of_mem | apply List.mem_append_right))) (List.getElem?_toArray.trans hd3)) ?_) | refine wl (wl_val hl rfl ⟨_, _, rfl, rfl, rfl⟩ (r_load hl rfl one30 (hh.mem _ _ (by repeat (first | exact hmemS | exact List.mem_append_left _ hmemS | apply List.mem_cons_of_mem | apply List.mem_append_right))) (List.getElem?_toArray.trans hd4)) ?_) | refine wl (wl_val hl rfl ⟨_, _, rfl, rfl, rfl⟩ (r_load hl rfl one30 (hh.mem _ _ (by repeat (first | exact hb4m | exact List.mem_append_left _ hb4m | apply List.mem_cons_of_mem | apply List.mem_append_right))) (List.getElem?_toArray.trans hd6)) ?_) | refine wl (wl_val hl rfl ⟨_, _, rfl, rfl, rfl⟩ (r_load hl rfl one30 (hh.mem _ _ (by repeat (first | exact hmemO | exact List.mem_append_left _ hmemO | apply List.mem_cons_of_mem | apply List.mem_append_right))) (List.getElem?_toArray.trans hd7)) ?_)
                clear hl a; intro a hl
                refine wl (w_call hl hh rfl ⟨_, _, rfl, rfl, rfl⟩ rfl cal58 rfl (eqTs_spec r'.a t.a _ _ _ _ _ _ hr'.hd ht.hd) (by repeat (first | exact keeps_nil | apply keeps_cons (by repeat (first | exact find_head | apply find_tail | apply find_skip)) (by first  | rfl) | exact keeps_self | exact keeps_left | apply keeps_app | apply keeps_mv | apply keeps_skip)) ⟨RV.mh (memK hh (by repeat (first | exact keeps_nil | apply keeps_cons (by repeat (first | exact find_head | apply find_tail | apply find_skip)) (by first  | rfl) | exact keeps_self | exact keeps_left | apply keeps_app | apply keeps_mv | apply keeps_skip))), mem_keep hh (RV.mh hpre.2)⟩ ?_)
                clear hl hh a w; intro vc Fc a w hR hl hh
                obtain ⟨rfl, rfl⟩ := hR
                try simp only [List.cons_append, List.nil_append, List.append_assoc, List.append_nil] at hh
                refine wl (wl_val hl rfl ⟨_, _, rfl, rfl, rfl⟩ (r_not hl rfl) ?_)
                clear hl a; intro a hl
                refine wl (wl_val hl rfl trivial (r_pickF hl rfl rfl) ?_)
                clear hl a; intro a hl
                refine w_nil ?_
                have hl2 := hl.add (t := 2) (hl.add (t := 3) (hl.add (t := 5) (hl.add (t := 6) (hl.add (t := 7) (hl.add (t := 9) (hl.add (t := 15) (hl.add (t := 61) (hl.add (t := 62) (hl.add (t := 63) (hl.add (t := 105) (hl.nil) rfl) rfl) rfl) rfl) rfl) rfl) rfl) rfl) rfl) rfl) rfl; clear hl; have hl := hl2; clear hl2
                refine then_normal ?_
                refine c_cond hl rfl ?_ ?_
                · intro hc4
                  try simp only [decide_eq_true_eq, decide_eq_false_iff_not, Bool.not_eq_true', Bool.not_eq_false', Bool.not_eq_true, Bool.not_eq_false, Bool.and_eq_true, Bool.or_eq_true, Bool.and_eq_false_iff, Bool.or_eq_false_iff, Bool.not_not, ne_eq, Int.not_lt, Int.not_le, Decidable.not_not, beq_iff_eq, bne_iff_ne] at hc4
                  have hno : NoM r.ru t.ru s.l := by
                    first
                    | exact fun h9 => by_f (by assumption) (hrn.p.trans h9.1.p)
                    | exact fun h9 => absurd (hrn.a.trans h9.1.a) (by assumption)
                  refine wp_exit ?_
                  refine then_exit ?_
                  refine blk_exit ?_
                  refine then_normal ?_
                  refine c_region ?_
                  first | refine wl (wl_val hl rfl trivial (r_add hl rfl rfl (by simp only [Fits]; omega)) ?_) | refine wl (wl_val hl rfl trivial (r_addW hl rfl rfl) ?_)
                  clear hl a; intro a hl
                  refine wl (wl_val hl rfl trivial (r_move hl rfl) ?_)
                  clear hl a; intro a hl
                  refine w_nil ?_
                  have hl2 := hl.add (t := 2) (hl.add (t := 3) (hl.add (t := 5) (hl.add (t := 6) (hl.add (t := 7) (hl.add (t := 9) (hl.add (t := 61) (hl.add (t := 62) (hl.add (t := 63) (hl.nil) rfl) rfl) rfl) rfl) rfl) rfl) rfl) rfl) rfl; clear hl; have hl := hl2; clear hl2
                  refine then_normal ?_
                  refine ⟨i1 + 1, (by omega), ⟨by omega, take_next hI1 hsn hno⟩, hl.addE (t := 63) (hl.addE (t := 2) (hl.addE (t := 3) (hl.addE (t := 5) (hl.addE (t := 6) (hl.addE (t := 7) (hl.addE (t := 9) (hl.addE (t := 61) (hl.addE (t := 62) (hl.nil) rfl (by first | rfl | exact congrArg (Value.int .i64) (show (i1 : Int) + 1 = ((i1 + 1 : Nat) : Int) by omega) | (rw [hq1]))) rfl (by first | rfl | exact congrArg (Value.int .i64) (show (i1 : Int) + 1 = ((i1 + 1 : Nat) : Int) by omega) | (rw [hq1]))) rfl (by first | rfl | exact congrArg (Value.int .i64) (show (i1 : Int) + 1 = ((i1 + 1 : Nat) : Int) by omega) | (rw [hq1]))) rfl (by first | rfl | exact congrArg (Value.int .i64) (show (i1 : Int) + 1 = ((i1 + 1 : Nat) : Int) by omega) | (rw [hq1]))) rfl (by first | rfl | exact congrArg (Value.int .i64) (show (i1 : Int) + 1 = ((i1 + 1 : Nat) : Int) by omega) | (rw [hq1]))) rfl (by first | rfl | exact congrArg (Value.int .i64) (show (i1 : Int) + 1 = ((i1 + 1 : Nat) : Int) by omega) | (rw [hq1]))) rfl (by first | rfl | exact congrArg (Value.int .i64) (show (i1 : Int) + 1 = ((i1 + 1 : Nat) : Int) by omega) | (rw [hq1]))) rfl (by first | rfl | exact congrArg (Value.int .i64) (show (i1 : Int) + 1 = ((i1 + 1 : Nat) : Int) by omega) | (rw [hq1]))) rfl (by first | rfl | exact congrArg (Value.int .i64) (show (i1 : Int) + 1 = ((i1 + 1 : Nat) : Int) by omega) | (rw [hq1])), hh.keep (by repeat (first | exact keeps_nil | apply keeps_cons (by repeat (first | exact find_head | apply find_tail | apply find_skip)) (by first  | rfl) | exact keeps_self | exact keeps_left | apply keeps_app | apply keeps_mv | apply keeps_skip))⟩
                · intro hc4
                  try simp only [decide_eq_true_eq, decide_eq_false_iff_not, Bool.not_eq_true', Bool.not_eq_false', Bool.not_eq_true, Bool.not_eq_false, Bool.and_eq_true, Bool.or_eq_true, Bool.and_eq_false_iff, Bool.or_eq_false_iff, Bool.not_not, ne_eq, Int.not_lt, Int.not_le, Decidable.not_not, beq_iff_eq, bne_iff_ne] at hc4
                  have hmh : MtH r.ru t.ru s.l := ⟨hrn.p.symm.trans (by_t (by assumption)), hrn.a.symm.trans (by assumption)⟩
                  refine wp_skip ?_
                  refine then_normal ?_
                  refine c_seq ?_
                  refine c_region ?_
                  refine wl (wl_val hl rfl trivial (r_move hl rfl) ?_)
                  clear hl a; intro a hl
                  refine wl (wl_val hl rfl trivial (r_lenS hl rfl slc122) ?_)
                  clear hl a; intro a hl
                  refine wl (wl_val hl rfl trivial (r_move hl rfl) ?_)
                  clear hl a; intro a hl
                  refine w_nil ?_
                  have hl2 := hl.add (t := 2) (hl.add (t := 3) (hl.add (t := 5) (hl.add (t := 6) (hl.add (t := 7) (hl.add (t := 9) (hl.add (t := 15) (hl.add (t := 61) (hl.add (t := 62) (hl.add (t := 63) (hl.add (t := 106) (hl.add (t := 107) (hl.add (t := 108) (hl.nil) rfl) rfl) rfl) rfl) rfl) rfl) rfl) rfl) rfl) rfl) rfl) rfl) rfl; clear hl; have hl := hl2; clear hl2
                  refine then_normal ?_
                  refine wp_block ?_
                  obtain ⟨KS3, hKS3, hk⟩ := (hl.add (t := 2) (hl.add (t := 3) (hl.add (t := 5) (hl.add (t := 6) (hl.add (t := 7) (hl.add (t := 9) (hl.add (t := 15) (hl.add (t := 61) (hl.add (t := 62) (hl.add (t := 63) (hl.add (t := 106) (hl.add (t := 107) (hl.nil) rfl) rfl) rfl) rfl) rfl) rfl) rfl) rfl) rfl) rfl) rfl) rfl).name
                  obtain ⟨HS3, hHS3, hh2⟩ := hh.name (keeps_nil)
                  refine c_loop (α := Nat) (fun i3 => os.length - i3) (fun i3 a w => (i3 ≤ os.length ∧ ∀ od, od ∈ (ordN r.ls.length).take i3 → ¬ MtB r.ru t.ru s.l od) ∧ Sl 164 ([(108, .int .i64 (i3 : Int))] ++ KS3) a ∧ Has _ w0 ([] ++ HS3) w) 0 ⟨⟨Nat.zero_le _, fun od h => by simp at h⟩, hl.addE (t := 108) (hk) rfl (by first | rfl), hh2⟩ ?_
                  clear hk hh2 hl hh a w
                  intro i3 a w hI
                  obtain ⟨⟨hi3, hI3⟩, hl, hh⟩ := hI
                  subst hKS3; subst hHS3
                  simp only [List.cons_append, List.nil_append, List.append_nil, List.append_assoc] at hl hh
                  refine c_seq ?_
                  refine c_region ?_
                  refine wl (wl_val hl rfl trivial (r_lss hl rfl rfl) ?_)
                  clear hl a; intro a hl
                  refine w_nil ?_
                  have hl2 := hl.add (t := 2) (hl.add (t := 3) (hl.add (t := 5) (hl.add (t := 6) (hl.add (t := 7) (hl.add (t := 9) (hl.add (t := 15) (hl.add (t := 61) (hl.add (t := 62) (hl.add (t := 63) (hl.add (t := 106) (hl.add (t := 107) (hl.add (t := 108) (hl.add (t := 109) (hl.nil) rfl) rfl) rfl) rfl) rfl) rfl) rfl) rfl) rfl) rfl) rfl) rfl) rfl) rfl; clear hl; have hl := hl2; clear hl2
                  refine then_normal ?_
                  refine c_seq ?_
                  refine c_cond hl rfl ?_ ?_
                  · intro hc5
                    try simp only [decide_eq_true_eq, decide_eq_false_iff_not, Bool.not_eq_true', Bool.not_eq_false', Bool.not_eq_true, Bool.not_eq_false, Bool.and_eq_true, Bool.or_eq_true, Bool.and_eq_false_iff, Bool.or_eq_false_iff, Bool.not_not, ne_eq, Int.not_lt, Int.not_le, Decidable.not_not, beq_iff_eq, bne_iff_ne] at hc5
                    obtain ⟨o, ho⟩ : ∃ o, os[i3]? = some o := ⟨_, List.getElem?_eq_getElem (by omega)⟩
                    have homm := List.mem_of_getElem? ho
                    have hon : (ordN r.ls.length)[i3]? = some o.l := by rw [← hom]; exact map_at OV.l ho
                    have hop9 := (mem_ord _ _).1 (List.mem_of_getElem? hon)
                    have holn : o.l.length = r.ls.length := perm_len hop9
                    obtain ⟨b4, j4, hq4, _, _, hq4E⟩ := row_pos hoR (by omega)
                    have hb4m : (b4, C (fl OV.c1 os ++ j4) 70) ∈ oE := by rw [hq4E]; exact List.mem_singleton.2 rfl
                    have hmemO : (o.b, C (fl iI o.l ++ o.j) 3) ∈ List.flatMap OV.E os := List.mem_flatMap.2 ⟨o, homm, List.mem_singleton.2 rfl⟩
                    rw [hq4] at hl
                    have hd6 := fl_cell1 (f := OV.c1) (g := OV.v) (fun _ => rfl) ho j4
                    simp only [OV.v] at hd6
                    refine wp_skip ?_
                    refine then_normal ?_
                    refine c_seq ?_
                    refine wp_block ?_
                    refine c_seq ?_
                    refine c_region ?_
                    refine wl (wl_val hl rfl trivial (r_indexS hl rfl rfl slc122 (by omega) (by omega) (by first | (simp only [Int.reduceToNat]; rfl) | exact toNat_add1 _ | exact toNat_add2 _ _ | exact toNat_emod _ _ | exact Int.toNat_natCast _ | rfl)) ?_)
                    clear hl a; intro a hl
                    first | refine wl (w_load hl hh rfl trivial one70 rfl (by repeat (first | exact find_head | apply find_tail | apply find_skip)) (by first | rfl) ?_) | refine wl (wl_val hl rfl trivial (r_load hl rfl one70 (hh.mem _ _ (by repeat (first | exact hb1m | exact List.mem_append_left _ hb1m | apply List.mem_cons_of_mem | apply List.mem_append_right))) (List.getElem?_toArray.trans hd1)) ?_) | refine wl (wl_val hl rfl trivial (r_load hl rfl one70 (hh.mem _ _ (by repeat (first | exact hb2m | exact List.mem_append_left _ hb2m | apply List.mem_cons_of_mem | apply List.mem_append_right))) (List.getElem?_toArray.trans hd2)) ?_) | refine wl (wl_val hl rfl trivial (r_load hl rfl one70 (hh.mem _ _ (by repeat (first | exact hb3m | exact List.mem_append_left _ hb3m | apply List.mem_cons_of_mem | apply List.mem_append_right))) (List.getElem?_toArray.trans hd3)) ?_) | refine wl (wl_val hl rfl trivial (r_load hl rfl one70 (hh.mem _ _ (by repeat (first | exact hmemS | exact List.mem_append_left _ hmemS | apply List.mem_cons_of_mem | apply List.mem_append_right))) (List.getElem?_toArray.trans hd4)) ?_) | refine wl (wl_val hl rfl trivial (r_load hl rfl one70 (hh.mem _ _ (by repeat (first | exact hb4m | exact List.mem_append_left _ hb4m | apply List.mem_cons_of_mem | apply List.mem_append_right))) (List.getElem?_toArray.trans hd6)) ?_) | refine wl (wl_val hl rfl trivial (r_load hl rfl one70 (hh.mem _ _ (by repeat (first | exact hmemO | exact List.mem_append_left _ hmemO | apply List.mem_cons_of_mem | apply List.mem_append_right))) (List.getElem?_toArray.trans hd7)) ?_)
                    clear hl a; intro a hl
                    refine wl (wl_val hl rfl trivial (r_assign hl rfl) ?_)
                    clear hl a; intro a hl
                    refine w_nil ?_
                    have hl2 := hl.add (t := 2) (hl.add (t := 3) (hl.add (t := 5) (hl.add (t := 6) (hl.add (t := 7) (hl.add (t := 9) (hl.add (t := 15) (hl.add (t := 17) (hl.add (t := 61) (hl.add (t := 62) (hl.add (t := 63) (hl.add (t := 106) (hl.add (t := 107) (hl.add (t := 108) (hl.nil) rfl) rfl) rfl) rfl) rfl) rfl) rfl) rfl) rfl) rfl) rfl) rfl) rfl) rfl; clear hl; have hl := hl2; clear hl2
                    refine then_normal ?_
                    refine c_seq ?_
                    refine c_region ?_
                    refine wl (wl_val hl rfl trivial (r_assign hl rfl) ?_)
                    clear hl a; intro a hl
                    refine w_nil ?_
                    have hl2 := hl.add (t := 2) (hl.add (t := 3) (hl.add (t := 5) (hl.add (t := 6) (hl.add (t := 7) (hl.add (t := 9) (hl.add (t := 15) (hl.add (t := 17) (hl.add (t := 18) (hl.add (t := 61) (hl.add (t := 62) (hl.add (t := 63) (hl.add (t := 106) (hl.add (t := 107) (hl.add (t := 108) (hl.nil) rfl) rfl) rfl) rfl) rfl) rfl) rfl) rfl) rfl) rfl) rfl) rfl) rfl) rfl) rfl; clear hl; have hl := hl2; clear hl2
                    refine then_normal ?_
                    refine c_seq ?_
                    refine c_seq ?_
                    refine c_region ?_
                    refine wl (wl_val hl rfl trivial (r_move hl rfl) ?_)
                    clear hl a; intro a hl
                    refine wl (wl_val hl rfl trivial (r_lenS hl rfl slc70) ?_)
                    clear hl a; intro a hl
                    refine wl (wl_val hl rfl trivial (r_move hl rfl) ?_)
                    clear hl a; intro a hl
                    refine w_nil ?_
                    have hl2 := hl.add (t := 2) (hl.add (t := 3) (hl.add (t := 5) (hl.add (t := 6) (hl.add (t := 7) (hl.add (t := 9) (hl.add (t := 15) (hl.add (t := 18) (hl.add (t := 61) (hl.add (t := 62) (hl.add (t := 63) (hl.add (t := 106) (hl.add (t := 107) (hl.add (t := 108) (hl.add (t := 112) (hl.add (t := 113) (hl.add (t := 114) (hl.nil) rfl) rfl) rfl) rfl) rfl) rfl) rfl) rfl) rfl) rfl) rfl) rfl) rfl) rfl) rfl) rfl) rfl; clear hl; have hl := hl2; clear hl2
                    refine then_normal ?_
                    refine wp_block ?_
                    obtain ⟨KS4, hKS4, hk⟩ := (hl.add (t := 2) (hl.add (t := 3) (hl.add (t := 5) (hl.add (t := 6) (hl.add (t := 7) (hl.add (t := 9) (hl.add (t := 15) (hl.add (t := 61) (hl.add (t := 62) (hl.add (t := 63) (hl.add (t := 106) (hl.add (t := 107) (hl.add (t := 108) (hl.add (t := 112) (hl.add (t := 113) (hl.nil) rfl) rfl) rfl) rfl) rfl) rfl) rfl) rfl) rfl) rfl) rfl) rfl) rfl) rfl) rfl).name
                    obtain ⟨HS4, hHS4, hh2⟩ := hh.name (keeps_nil)
                    refine c_loop (α := Nat) (fun k => o.l.length - k) (fun k a w => (k ≤ o.l.length ∧ pickL (r'.ls.map LV.l) (o.l.take k) = (t.ls.map LV.l).take k) ∧ Sl 164 ([(114, .int .i64 (k : Int)), (18, .bool true)] ++ KS4) a ∧ Has _ w0 ([] ++ HS4) w) 0 ⟨⟨Nat.zero_le _, rfl⟩, hl.addE (t := 114) (hl.addE (t := 18) (hk) rfl (by first | rfl)) rfl (by first | rfl), hh2⟩ ?_
                    clear hk hh2 hl hh a w
                    intro k a w hI
                    obtain ⟨⟨hk, hK⟩, hl, hh⟩ := hI
                    subst hKS4; subst hHS4
                    simp only [List.cons_append, List.nil_append, List.append_nil, List.append_assoc] at hl hh
                    refine c_seq ?_
                    refine c_region ?_
                    refine wl (wl_val hl rfl trivial (r_lss hl rfl rfl) ?_)
                    clear hl a; intro a hl
                    refine w_nil ?_
                    have hl2 := hl.add (t := 2) (hl.add (t := 3) (hl.add (t := 5) (hl.add (t := 6) (hl.add (t := 7) (hl.add (t := 9) (hl.add (t := 15) (hl.add (t := 18) (hl.add (t := 61) (hl.add (t := 62) (hl.add (t := 63) (hl.add (t := 106) (hl.add (t := 107) (hl.add (t := 108) (hl.add (t := 112) (hl.add (t := 113) (hl.add (t := 114) (hl.add (t := 115) (hl.nil) rfl) rfl) rfl) rfl) rfl) rfl) rfl) rfl) rfl) rfl) rfl) rfl) rfl) rfl) rfl) rfl) rfl) rfl; clear hl; have hl := hl2; clear hl2
                    refine then_normal ?_
                    refine c_seq ?_
                    refine c_cond hl rfl ?_ ?_
                    · intro hc6
                      try simp only [decide_eq_true_eq, decide_eq_false_iff_not, Bool.not_eq_true', Bool.not_eq_false', Bool.not_eq_true, Bool.not_eq_false, Bool.and_eq_true, Bool.or_eq_true, Bool.and_eq_false_iff, Bool.or_eq_false_iff, Bool.not_not, ne_eq, Int.not_lt, Int.not_le, Decidable.not_not, beq_iff_eq, bne_iff_ne] at hc6
                      obtain ⟨q, hq⟩ : ∃ q, o.l[k]? = some q := ⟨_, List.getElem?_eq_getElem (by omega)⟩
                      have hqr := perm_rng hop9 (List.mem_of_getElem? hq)
                      obtain ⟨qn, rfl⟩ : ∃ n : Nat, q = (n : Int) := ⟨q.toNat, by omega⟩
                      have hrn9 := hrn.n
                      obtain ⟨x, hx⟩ : ∃ x, r'.ls[qn]? = some x := ⟨_, List.getElem?_eq_getElem (by omega)⟩
                      obtain ⟨y, hy⟩ : ∃ y, t.ls[k]? = some y := ⟨_, List.getElem?_eq_getElem (by omega)⟩
                      have hxm := List.mem_of_getElem? hx
                      have hym := List.mem_of_getElem? hy
                      obtain ⟨b5, j5, hq5, _, _, hE5⟩ := row_pos hr'.bd (by omega)
                      obtain ⟨b6, j6, hq6, hE6, hm6⟩ := row_mem ht.bd (by omega) (RV.mb hpre.2)
                      rw [hq5, hq6] at hh
                      have hd7 := fl_cell1 (f := iI) (g := .int .i64) (fun _ => rfl) hq o.j
                      have hd5 := fl_at c4_len hx j5
                      have hd8 := fl_at c4_len hy j6
                      simp only [LV.c4] at hd5 hd8
                      refine wp_skip ?_
                      refine then_normal ?_
                      refine c_seq ?_
                      refine wp_block ?_
                      refine c_seq ?_
                      refine c_region ?_
                      refine wl (wl_val hl rfl trivial (r_move hl rfl) ?_)
                      clear hl a; intro a hl
                      refine wl (wl_val hl rfl trivial (r_indexS hl rfl rfl slc70 (by omega) (by omega) (by first | (simp only [Int.reduceToNat]; rfl) | exact toNat_add1 _ | exact toNat_add2 _ _ | exact toNat_emod _ _ | exact Int.toNat_natCast _ | rfl)) ?_)
                      clear hl a; intro a hl
                      first | refine wl (w_load hl hh rfl trivial one3 rfl (by repeat (first | exact find_head | apply find_tail | apply find_skip)) (by rfl) ?_) | refine wl (wl_val hl rfl trivial (r_load hl rfl one3 (hh.mem _ _ (by repeat (first | exact hb1m | exact List.mem_append_left _ hb1m | apply List.mem_cons_of_mem | apply List.mem_append_right))) (List.getElem?_toArray.trans hd1)) ?_) | refine wl (wl_val hl rfl trivial (r_load hl rfl one3 (hh.mem _ _ (by repeat (first | exact hb2m | exact List.mem_append_left _ hb2m | apply List.mem_cons_of_mem | apply List.mem_append_right))) (List.getElem?_toArray.trans hd2)) ?_) | refine wl (wl_val hl rfl trivial (r_load hl rfl one3 (hh.mem _ _ (by repeat (first | exact hb3m | exact List.mem_append_left _ hb3m | apply List.mem_cons_of_mem | apply List.mem_append_right))) (List.getElem?_toArray.trans hd3)) ?_) | refine wl (wl_val hl rfl trivial (r_load hl rfl one3 (hh.mem _ _ (by repeat (first | exact hmemS | exact List.mem_append_left _ hmemS | apply List.mem_cons_of_mem | apply List.mem_append_right))) (List.getElem?_toArray.trans hd4)) ?_) | refine wl (wl_val hl rfl trivial (r_load hl rfl one3 (hh.mem _ _ (by repeat (first | exact hb4m | exact List.mem_append_left _ hb4m | apply List.mem_cons_of_mem | apply List.mem_append_right))) (List.getElem?_toArray.trans hd6)) ?_) | refine wl (wl_val hl rfl trivial (r_load hl rfl one3 (hh.mem _ _ (by repeat (first | exact hmemO | exact List.mem_append_left _ hmemO | apply List.mem_cons_of_mem | apply List.mem_append_right))) (List.getElem?_toArray.trans hd7)) ?_)
                      clear hl a; intro a hl
                      refine wl (wl_val hl rfl trivial (r_assign hl rfl) ?_)
                      clear hl a; intro a hl
                      refine wl (wl_val hl rfl trivial (r_assign hl rfl) ?_)
                      clear hl a; intro a hl
                      refine w_nil ?_
                      have hl2 := hl.add (t := 2) (hl.add (t := 3) (hl.add (t := 5) (hl.add (t := 6) (hl.add (t := 7) (hl.add (t := 9) (hl.add (t := 15) (hl.add (t := 18) (hl.add (t := 19) (hl.add (t := 20) (hl.add (t := 61) (hl.add (t := 62) (hl.add (t := 63) (hl.add (t := 106) (hl.add (t := 107) (hl.add (t := 108) (hl.add (t := 112) (hl.add (t := 113) (hl.add (t := 114) (hl.nil) rfl) rfl) rfl) rfl) rfl) rfl) rfl) rfl) rfl) rfl) rfl) rfl) rfl) rfl) rfl) rfl) rfl) rfl) rfl; clear hl; have hl := hl2; clear hl2
                      refine then_normal ?_
                      refine c_seq ?_
                      refine c_draw [(k15, C [.string r'.p, .slice r'.hp r'.a.length r'.hc, .slice (some ⟨b5, 0, none⟩) r'.ls.length r'.bc] 35), (b5, C (fl LV.c4 r'.ls ++ j5) 44), (k3, C [.string t.p, .slice t.hp t.a.length t.hc, .slice (some ⟨b6, 0, none⟩) t.ls.length t.bc] 35), (b6, C (fl LV.c4 t.ls ++ j6) 44)] [13] mixed hh ?_
                      clear hh w; intro w hh
                      have hM : Mem [(k15, C [.string r'.p, .slice r'.hp r'.a.length r'.hc, .slice (some ⟨b5, 0, none⟩) r'.ls.length r'.bc] 35), (b5, C (fl LV.c4 r'.ls ++ j5) 44), (k3, C [.string t.p, .slice t.hp t.a.length t.hc, .slice (some ⟨b6, 0, none⟩) t.ls.length t.bc] 35), (b6, C (fl LV.c4 t.ls ++ j6) 44)] w := (fun b o m => by simp only [List.mem_cons, List.not_mem_nil, or_false] at m; rcases m with m | m | m | m <;> cases m; exact hh.mem _ _ (Find.mem (by repeat (first | exact find_head | apply find_tail | apply find_skip))); exact RV.mb (memK hh (by repeat (first | exact keeps_nil | apply keeps_cons (by repeat (first | exact find_head | apply find_tail | apply find_skip)) (by first  | rfl) | exact keeps_self | exact keeps_left | apply keeps_app | apply keeps_mv | apply keeps_skip))) _ _ (by rw [hE5]; exact List.mem_singleton.2 rfl); exact hh.mem _ _ (Find.mem (by repeat (first | exact find_head | apply find_tail | apply find_skip))); exact heap_keep hh hm6)
                      refine d_take (i := 0) hl rfl (by kernel_rfl) (by kernel_rfl) (by kernel_rfl) (by kernel_rfl) (by kernel_rfl) rfl trivial (fun _ _ _ h => h) hM (fun w hC => r_field hl rfl fld35_1) rfl ?_
                      clear hl a; intro a hl
                      refine d_take (i := 1) hl rfl (by kernel_rfl) (by kernel_rfl) (by kernel_rfl) (by kernel_rfl) (by kernel_rfl) rfl trivial (fun _ _ _ h => h) hM (fun w hC => r_loadC hl rfl one33 hC (by repeat (first | exact find_head | apply find_tail | apply find_skip)) (by first | rfl)) rfl ?_
                      clear hl a; intro a hl
                      refine d_take (i := 2) hl rfl (by kernel_rfl) (by kernel_rfl) (by kernel_rfl) (by kernel_rfl) (by kernel_rfl) rfl trivial (fun _ _ _ h => h) hM (fun w hC => r_move hl rfl) rfl ?_
                      clear hl a; intro a hl
                      refine d_take (i := 3) hl rfl (by kernel_rfl) (by kernel_rfl) (by kernel_rfl) (by kernel_rfl) (by kernel_rfl) rfl trivial (fun _ _ _ h => h) hM (fun w hC => r_indexS hl rfl rfl slc33 (by omega) (by omega) (by first | (simp only [Int.reduceToNat]; rfl) | exact toNat_add1 _ | exact toNat_add2 _ _ | exact toNat_emod _ _ | exact Int.toNat_natCast _ | rfl)) rfl ?_
                      clear hl a; intro a hl
                      refine d_take (i := 4) hl rfl (by kernel_rfl) (by kernel_rfl) (by kernel_rfl) (by kernel_rfl) (by kernel_rfl) rfl trivial (fun _ _ _ h => h) hM (fun w hC => r_loadCA hl rfl agg44 hC (by repeat (first | exact find_head | apply find_tail | apply find_skip)) (by first | exact hd5 | exact hd8 | (simp only [List.getElem?_cons_zero, List.getElem?_cons_succ, Value.cells, List.take_zero, List.take_succ_cons, List.take_nil, List.drop_zero, List.drop_succ_cons, List.drop_nil, List.length_cons, List.length_nil, List.cons_append, List.nil_append, List.append_nil, Nat.zero_add, Nat.add_zero, Nat.reduceAdd, Nat.reduceBEq, Nat.reduceEqDiff, Nat.ble, BEq.rfl, Bool.and_true, Bool.and_self, cond_true, beq_self_eq_true]; rfl)) (by first | rfl | (simp; done))) rfl ?_
                      clear hl a; intro a hl
                      refine d_take (i := 5) hl rfl (by kernel_rfl) (by kernel_rfl) (by kernel_rfl) (by kernel_rfl) (by kernel_rfl) rfl trivial (fun _ _ _ h => h) hM (fun w hC => r_field hl rfl fld35_1) rfl ?_
                      clear hl a; intro a hl
                      refine d_take (i := 6) hl rfl (by kernel_rfl) (by kernel_rfl) (by kernel_rfl) (by kernel_rfl) (by kernel_rfl) rfl trivial (fun _ _ _ h => h) hM (fun w hC => r_loadC hl rfl one33 hC (by repeat (first | exact find_head | apply find_tail | apply find_skip)) (by first | rfl)) rfl ?_
                      clear hl a; intro a hl
                      refine d_take (i := 7) hl rfl (by kernel_rfl) (by kernel_rfl) (by kernel_rfl) (by kernel_rfl) (by kernel_rfl) rfl trivial (fun _ _ _ h => h) hM (fun w hC => r_move hl rfl) rfl ?_
                      clear hl a; intro a hl
                      refine d_take (i := 8) hl rfl (by kernel_rfl) (by kernel_rfl) (by kernel_rfl) (by kernel_rfl) (by kernel_rfl) rfl trivial (fun _ _ _ h => h) hM (fun w hC => r_indexS hl rfl rfl slc33 (by omega) (by omega) (by first | (simp only [Int.reduceToNat]; rfl) | exact toNat_add1 _ | exact toNat_add2 _ _ | exact toNat_emod _ _ | exact Int.toNat_natCast _ | rfl)) rfl ?_
                      clear hl a; intro a hl
                      refine d_take (i := 9) hl rfl (by kernel_rfl) (by kernel_rfl) (by kernel_rfl) (by kernel_rfl) (by kernel_rfl) rfl trivial (fun _ _ _ h => h) hM (fun w hC => r_loadCA hl rfl agg44 hC (by repeat (first | exact find_head | apply find_tail | apply find_skip)) (by first | exact hd5 | exact hd8 | (simp only [List.getElem?_cons_zero, List.getElem?_cons_succ, Value.cells, List.take_zero, List.take_succ_cons, List.take_nil, List.drop_zero, List.drop_succ_cons, List.drop_nil, List.length_cons, List.length_nil, List.cons_append, List.nil_append, List.append_nil, Nat.zero_add, Nat.add_zero, Nat.reduceAdd, Nat.reduceBEq, Nat.reduceEqDiff, Nat.ble, BEq.rfl, Bool.and_true, Bool.and_self, cond_true, beq_self_eq_true]; rfl)) (by first | rfl | (simp; done))) rfl ?_
                      clear hl a; intro a hl
                      refine d_two (i := 10) (j := 11) (by kernel_rfl) rfl rfl ?_ ?_
                      ·
                        try clear hM
                        refine id (w_alloc hl hh rfl trivial zero44 rfl ?_)
                        clear hl hh a w; intro k21 a w hl hh
                        have hM : Mem [(k15, C [.string r'.p, .slice r'.hp r'.a.length r'.hc, .slice (some ⟨b5, 0, none⟩) r'.ls.length r'.bc] 35), (b5, C (fl LV.c4 r'.ls ++ j5) 44), (k3, C [.string t.p, .slice t.hp t.a.length t.hc, .slice (some ⟨b6, 0, none⟩) t.ls.length t.bc] 35), (b6, C (fl LV.c4 t.ls ++ j6) 44)] w := (fun b o m => by simp only [List.mem_cons, List.not_mem_nil, or_false] at m; rcases m with m | m | m | m <;> cases m; exact hh.mem _ _ (Find.mem (by repeat (first | exact find_head | apply find_tail | apply find_skip))); exact RV.mb (memK hh (by repeat (first | exact keeps_nil | apply keeps_cons (by repeat (first | exact find_head | apply find_tail | apply find_skip)) (by first  | rfl) | exact keeps_self | exact keeps_left | apply keeps_app | apply keeps_mv | apply keeps_skip))) _ _ (by rw [hE5]; exact List.mem_singleton.2 rfl); exact hh.mem _ _ (Find.mem (by repeat (first | exact find_head | apply find_tail | apply find_skip))); exact heap_keep hh hm6)
                        refine d_step (fun _ => hM) ?_
                        refine d_one (i := 11) (by kernel_rfl) rfl ?_
                        try clear hM
                        refine id (w_alloc hl hh rfl trivial zero44 rfl ?_)
                        clear hl hh a w; intro k22 a w hl hh
                        have hM : Mem [(k15, C [.string r'.p, .slice r'.hp r'.a.length r'.hc, .slice (some ⟨b5, 0, none⟩) r'.ls.length r'.bc] 35), (b5, C (fl LV.c4 r'.ls ++ j5) 44), (k3, C [.string t.p, .slice t.hp t.a.length t.hc, .slice (some ⟨b6, 0, none⟩) t.ls.length t.bc] 35), (b6, C (fl LV.c4 t.ls ++ j6) 44)] w := (fun b o m => by simp only [List.mem_cons, List.not_mem_nil, or_false] at m; rcases m with m | m | m | m <;> cases m; exact hh.mem _ _ (Find.mem (by repeat (first | exact find_head | apply find_tail | apply find_skip))); exact RV.mb (memK hh (by repeat (first | exact keeps_nil | apply keeps_cons (by repeat (first | exact find_head | apply find_tail | apply find_skip)) (by first  | rfl) | exact keeps_self | exact keeps_left | apply keeps_app | apply keeps_mv | apply keeps_skip))) _ _ (by rw [hE5]; exact List.mem_singleton.2 rfl); exact hh.mem _ _ (Find.mem (by repeat (first | exact find_head | apply find_tail | apply find_skip))); exact heap_keep hh hm6)
                        refine d_step (fun _ => hM) ?_
                        refine d_one (i := 12) (by kernel_rfl) rfl ?_
                        try clear hM
                        refine id (w_storeA hl hh trivial agg44 rfl rfl (by repeat (first | exact find_head | apply find_tail | apply find_skip)) (by first | rfl | (simp; done) | exact hd5 | exact hd8) (by first | (simp; done) | (simp; omega)) (by first | rfl | (simp; done) | rfl) (by first | (simp only [setL, List.getElem?_cons_zero, List.getElem?_cons_succ, Value.cells, List.take_zero, List.take_succ_cons, List.take_nil, List.drop_zero, List.drop_succ_cons, List.drop_nil, List.length_cons, List.length_nil, List.cons_append, List.nil_append, List.append_nil, Nat.zero_add, Nat.add_zero, Nat.reduceAdd, Nat.reduceBEq, Nat.reduceEqDiff, Nat.ble, BEq.rfl, Bool.and_true, Bool.and_self, cond_true, beq_self_eq_true]; rfl)) ?_)
                        clear hh w; intro w hh
                        have hM : Mem [(k15, C [.string r'.p, .slice r'.hp r'.a.length r'.hc, .slice (some ⟨b5, 0, none⟩) r'.ls.length r'.bc] 35), (b5, C (fl LV.c4 r'.ls ++ j5) 44), (k3, C [.string t.p, .slice t.hp t.a.length t.hc, .slice (some ⟨b6, 0, none⟩) t.ls.length t.bc] 35), (b6, C (fl LV.c4 t.ls ++ j6) 44)] w := (fun b o m => by simp only [List.mem_cons, List.not_mem_nil, or_false] at m; rcases m with m | m | m | m <;> cases m; exact hh.mem _ _ (Find.mem (by repeat (first | exact find_head | apply find_tail | apply find_skip))); exact RV.mb (memK hh (by repeat (first | exact keeps_nil | apply keeps_cons (by repeat (first | exact find_head | apply find_tail | apply find_skip)) (by first  | rfl) | exact keeps_self | exact keeps_left | apply keeps_app | apply keeps_mv | apply keeps_skip))) _ _ (by rw [hE5]; exact List.mem_singleton.2 rfl); exact hh.mem _ _ (Find.mem (by repeat (first | exact find_head | apply find_tail | apply find_skip))); exact heap_keep hh hm6)
                        refine d_step (fun _ => hM) ?_
                        refine d_one (i := 13) (by kernel_rfl) rfl ?_
                        try clear hM
                        refine id (w_storeA hl hh trivial agg44 rfl rfl (by repeat (first | exact find_head | apply find_tail | apply find_skip)) (by first | rfl | (simp; done) | exact hd5 | exact hd8) (by first | (simp; done) | (simp; omega)) (by first | rfl | (simp; done) | rfl) (by first | (simp only [setL, List.getElem?_cons_zero, List.getElem?_cons_succ, Value.cells, List.take_zero, List.take_succ_cons, List.take_nil, List.drop_zero, List.drop_succ_cons, List.drop_nil, List.length_cons, List.length_nil, List.cons_append, List.nil_append, List.append_nil, Nat.zero_add, Nat.add_zero, Nat.reduceAdd, Nat.reduceBEq, Nat.reduceEqDiff, Nat.ble, BEq.rfl, Bool.and_true, Bool.and_self, cond_true, beq_self_eq_true]; rfl)) ?_)
                        clear hh w; intro w hh
                        refine d_step (fun h => absurd h (by decide)) ?_
                        refine d_done (by kernel_rfl) ?_
                        try clear hM
                        have hl2 := hl.add (t := 2) (hl.add (t := 3) (hl.add (t := 5) (hl.add (t := 6) (hl.add (t := 7) (hl.add (t := 9) (hl.add (t := 15) (hl.add (t := 18) (hl.add (t := 21) (hl.add (t := 22) (hl.add (t := 61) (hl.add (t := 62) (hl.add (t := 63) (hl.add (t := 106) (hl.add (t := 107) (hl.add (t := 108) (hl.add (t := 112) (hl.add (t := 113) (hl.add (t := 114) (hl.nil) rfl) rfl) rfl) rfl) rfl) rfl) rfl) rfl) rfl) rfl) rfl) rfl) rfl) rfl) rfl) rfl) rfl) rfl) rfl; clear hl; have hl := hl2; clear hl2
                        refine then_normal ?_
                        refine c_seq ?_
                        refine c_region ?_
                        refine wl (wl_val hl rfl trivial (r_field hl rfl fld44_0) ?_)
                        clear hl a; intro a hl
                        first | refine wl (w_load hl hh rfl trivial one41 rfl (by repeat (first | exact find_head | apply find_tail | apply find_skip)) (by first | rfl) ?_) | refine wl (wl_val hl rfl trivial (r_load hl rfl one41 (hh.mem _ _ (by repeat (first | exact hb1m | exact List.mem_append_left _ hb1m | apply List.mem_cons_of_mem | apply List.mem_append_right))) (List.getElem?_toArray.trans hd1)) ?_) | refine wl (wl_val hl rfl trivial (r_load hl rfl one41 (hh.mem _ _ (by repeat (first | exact hb2m | exact List.mem_append_left _ hb2m | apply List.mem_cons_of_mem | apply List.mem_append_right))) (List.getElem?_toArray.trans hd2)) ?_) | refine wl (wl_val hl rfl trivial (r_load hl rfl one41 (hh.mem _ _ (by repeat (first | exact hb3m | exact List.mem_append_left _ hb3m | apply List.mem_cons_of_mem | apply List.mem_append_right))) (List.getElem?_toArray.trans hd3)) ?_) | refine wl (wl_val hl rfl trivial (r_load hl rfl one41 (hh.mem _ _ (by repeat (first | exact hmemS | exact List.mem_append_left _ hmemS | apply List.mem_cons_of_mem | apply List.mem_append_right))) (List.getElem?_toArray.trans hd4)) ?_) | refine wl (wl_val hl rfl trivial (r_load hl rfl one41 (hh.mem _ _ (by repeat (first | exact hb4m | exact List.mem_append_left _ hb4m | apply List.mem_cons_of_mem | apply List.mem_append_right))) (List.getElem?_toArray.trans hd6)) ?_) | refine wl (wl_val hl rfl trivial (r_load hl rfl one41 (hh.mem _ _ (by repeat (first | exact hmemO | exact List.mem_append_left _ hmemO | apply List.mem_cons_of_mem | apply List.mem_append_right))) (List.getElem?_toArray.trans hd7)) ?_)
                        clear hl a; intro a hl
                        refine wl (wl_val hl rfl trivial (r_field hl rfl fld44_0) ?_)
                        clear hl a; intro a hl
                        first | refine wl (w_load hl hh rfl trivial one41 rfl (by repeat (first | exact find_head | apply find_tail | apply find_skip)) (by first | rfl) ?_) | refine wl (wl_val hl rfl trivial (r_load hl rfl one41 (hh.mem _ _ (by repeat (first | exact hb1m | exact List.mem_append_left _ hb1m | apply List.mem_cons_of_mem | apply List.mem_append_right))) (List.getElem?_toArray.trans hd1)) ?_) | refine wl (wl_val hl rfl trivial (r_load hl rfl one41 (hh.mem _ _ (by repeat (first | exact hb2m | exact List.mem_append_left _ hb2m | apply List.mem_cons_of_mem | apply List.mem_append_right))) (List.getElem?_toArray.trans hd2)) ?_) | refine wl (wl_val hl rfl trivial (r_load hl rfl one41 (hh.mem _ _ (by repeat (first | exact hb3m | exact List.mem_append_left _ hb3m | apply List.mem_cons_of_mem | apply List.mem_append_right))) (List.getElem?_toArray.trans hd3)) ?_) | refine wl (wl_val hl rfl trivial (r_load hl rfl one41 (hh.mem _ _ (by repeat (first | exact hmemS | exact List.mem_append_left _ hmemS | apply List.mem_cons_of_mem | apply List.mem_append_right))) (List.getElem?_toArray.trans hd4)) ?_) | refine wl (wl_val hl rfl trivial (r_load hl rfl one41 (hh.mem _ _ (by repeat (first | exact hb4m | exact List.mem_append_left _ hb4m | apply List.mem_cons_of_mem | apply List.mem_append_right))) (List.getElem?_toArray.trans hd6)) ?_) | refine wl (wl_val hl rfl trivial (r_load hl rfl one41 (hh.mem _ _ (by repeat (first | exact hmemO | exact List.mem_append_left _ hmemO | apply List.mem_cons_of_mem | apply List.mem_append_right))) (List.getElem?_toArray.trans hd7)) ?_)
                        clear hl a; intro a hl
                        refine wl (wl_val hl rfl trivial (r_neq hl rfl rfl) ?_)
                        clear hl a; intro a hl
                        refine wl (wl_val hl rfl trivial (r_move hl rfl) ?_)
                        clear hl a; intro a hl
                        refine sl_split (t := 134) hl rfl ?_ ?_
                        · intro hg3; clear hl; intro hl
                          try simp only [decide_eq_true_eq, decide_eq_false_iff_not, Bool.not_eq_true', Bool.not_eq_false', Bool.not_eq_true, Bool.not_eq_false, Bool.and_eq_true, Bool.or_eq_true, Bool.and_eq_false_iff, Bool.or_eq_false_iff, Bool.not_not, ne_eq, Int.not_lt, Int.not_le, Decidable.not_not, beq_iff_eq, bne_iff_ne] at hg3
                          refine wl (wl_skip hl rfl ⟨_, _, rfl, rfl, rfl⟩ ?_)
                          clear hl a; intro a hl
                          refine wl (wl_skip hl rfl ⟨_, _, rfl, rfl, rfl⟩ ?_)
                          clear hl a; intro a hl
                          refine wl (wl_skip hl rfl ⟨_, _, rfl, rfl, rfl⟩ ?_)
                          clear hl a; intro a hl
                          refine wl (wl_skip hl rfl ⟨_, _, rfl, rfl, rfl⟩ ?_)
                          clear hl a; intro a hl
                          refine wl (wl_skip hl rfl ⟨_, _, rfl, rfl, rfl⟩ ?_)
                          clear hl a; intro a hl
                          refine wl (wl_val hl rfl trivial (r_pickT hl rfl rfl) ?_)
                          clear hl a; intro a hl
                          refine wl (wl_val hl rfl trivial (r_move hl rfl) ?_)
                          clear hl a; intro a hl
                          refine wl (wl_skip hl rfl ⟨_, _, rfl, rfl, rfl⟩ ?_)
                          clear hl a; intro a hl
                          refine wl (wl_skip hl rfl ⟨_, _, rfl, rfl, rfl⟩ ?_)
                          clear hl a; intro a hl
                          refine wl (wl_skip hl rfl ⟨_, _, rfl, rfl, rfl⟩ ?_)
                          clear hl a; intro a hl
                          refine wl (wl_skip hl rfl ⟨_, _, rfl, rfl, rfl⟩ ?_)
                          clear hl a; intro a hl
                          refine wl (wl_skip hl rfl ⟨_, _, rfl, rfl, rfl⟩ ?_)
                          clear hl a; intro a hl
                          refine wl (wl_skip hl rfl ⟨_, _, rfl, rfl, rfl⟩ ?_)
                          clear hl a; intro a hl
                          refine wl (wl_skip hl rfl ⟨_, _, rfl, rfl, rfl⟩ ?_)
                          clear hl a; intro a hl
                          refine wl (wl_val hl rfl trivial (r_pickT hl rfl rfl) ?_)
                          clear hl a; intro a hl
                          refine wl (wl_val hl rfl trivial (r_move hl rfl) ?_)
                          clear hl a; intro a hl
                          refine wl (wl_skip hl rfl ⟨_, _, rfl, rfl, rfl⟩ ?_)
                          clear hl a; intro a hl
                          refine wl (wl_skip hl rfl ⟨_, _, rfl, rfl, rfl⟩ ?_)
                          clear hl a; intro a hl
                          refine wl (wl_skip hl rfl ⟨_, _, rfl, rfl, rfl⟩ ?_)
                          clear hl a; intro a hl
                          refine wl (wl_skip hl rfl ⟨_, _, rfl, rfl, rfl⟩ ?_)
                          clear hl a; intro a hl
                          refine wl (wl_skip hl rfl ⟨_, _, rfl, rfl, rfl⟩ ?_)
                          clear hl a; intro a hl
                          refine wl (wl_skip hl rfl ⟨_, _, rfl, rfl, rfl⟩ ?_)
                          clear hl a; intro a hl
                          refine wl (wl_skip hl rfl ⟨_, _, rfl, rfl, rfl⟩ ?_)
                          clear hl a; intro a hl
                          refine wl (wl_skip hl rfl ⟨_, _, rfl, rfl, rfl⟩ ?_)
                          clear hl a; intro a hl
                          refine wl (wl_val hl rfl trivial (r_pickT hl rfl rfl) ?_)
                          clear hl a; intro a hl
                          refine w_nil ?_
                          have hl2 := hl.add (t := 2) (hl.add (t := 3) (hl.add (t := 5) (hl.add (t := 6) (hl.add (t := 7) (hl.add (t := 9) (hl.add (t := 15) (hl.add (t := 18) (hl.add (t := 61) (hl.add (t := 62) (hl.add (t := 63) (hl.add (t := 106) (hl.add (t := 107) (hl.add (t := 108) (hl.add (t := 112) (hl.add (t := 113) (hl.add (t := 114) (hl.add (t := 159) (hl.nil) rfl) rfl) rfl) rfl) rfl) rfl) rfl) rfl) rfl) rfl) rfl) rfl) rfl) rfl) rfl) rfl) rfl) rfl; clear hl; have hl := hl2; clear hl2
                          refine then_normal ?_
                          refine c_condT hl rfl ?_
                          have hxy : ¬ x.l = y.l := by
                            first
                            | exact fun h9 => absurd (lt_eq.1 h9).1 (by assumption)
                            | exact fun h9 => absurd (lt_eq.1 h9).2.1 (by assumption)
                            | exact fun h9 => by_f (by assumption) (lt_eq.1 h9).2.2.1
                            | exact fun h9 => absurd (lt_eq.1 h9).2.2.2 (by assumption)
                          have hnB : ¬ MtB r.ru t.ru s.l o.l := mtb_no (L := r'.ls.map LV.l) hrn.b (fun i hi => by have := perm_rng hop9 hi; rw [List.length_map, hrn.n]; omega) hq (map_at LV.l hx) (map_at LV.l hy) hxy
                          refine c_seq ?_
                          refine c_region ?_
                          refine wl (wl_val hl rfl trivial (r_assign hl rfl) ?_)
                          clear hl a; intro a hl
                          refine w_nil ?_
                          have hl2 := hl.add (t := 2) (hl.add (t := 3) (hl.add (t := 5) (hl.add (t := 6) (hl.add (t := 7) (hl.add (t := 9) (hl.add (t := 15) (hl.add (t := 18) (hl.add (t := 61) (hl.add (t := 62) (hl.add (t := 63) (hl.add (t := 106) (hl.add (t := 107) (hl.add (t := 108) (hl.nil) rfl) rfl) rfl) rfl) rfl) rfl) rfl) rfl) rfl) rfl) rfl) rfl) rfl) rfl; clear hl; have hl := hl2; clear hl2
                          refine then_normal ?_
                          refine wp_exit ?_
                          refine blk_exit_ne rfl ?_
                          refine then_exit ?_
                          refine then_exit ?_
                          refine blk_exit ?_
                          refine then_normal ?_
                          refine c_seq ?_
                          refine c_region ?_
                          refine wl (wl_val hl rfl trivial (r_move hl rfl) ?_)
                          clear hl a; intro a hl
                          refine w_nil ?_
                          have hl2 := hl.add (t := 2) (hl.add (t := 3) (hl.add (t := 5) (hl.add (t := 6) (hl.add (t := 7) (hl.add (t := 9) (hl.add (t := 15) (hl.add (t := 61) (hl.add (t := 62) (hl.add (t := 63) (hl.add (t := 106) (hl.add (t := 107) (hl.add (t := 108) (hl.add (t := 161) (hl.nil) rfl) rfl) rfl) rfl) rfl) rfl) rfl) rfl) rfl) rfl) rfl) rfl) rfl) rfl; clear hl; have hl := hl2; clear hl2
                          refine then_normal ?_
                          refine c_condF hl rfl ?_
                          have hnB : ¬ MtB r.ru t.ru s.l o.l := by
                            first
                            | assumption
                            | (exfalso; simp at hc8; done)
                            | contradiction
                          refine wp_skip ?_
                          refine blk_normal ?_
                          refine then_normal ?_
                          refine c_region ?_
                          first | refine wl (wl_val hl rfl trivial (r_add hl rfl rfl (by simp only [Fits]; omega)) ?_) | refine wl (wl_val hl rfl trivial (r_addW hl rfl rfl) ?_)
                          clear hl a; intro a hl
                          refine wl (wl_val hl rfl trivial (r_move hl rfl) ?_)
                          clear hl a; intro a hl
                          refine w_nil ?_
                          have hl2 := hl.add (t := 2) (hl.add (t := 3) (hl.add (t := 5) (hl.add (t := 6) (hl.add (t := 7) (hl.add (t := 9) (hl.add (t := 15) (hl.add (t := 61) (hl.add (t := 62) (hl.add (t := 63) (hl.add (t := 106) (hl.add (t := 107) (hl.add (t := 108) (hl.nil) rfl) rfl) rfl) rfl) rfl) rfl) rfl) rfl) rfl) rfl) rfl) rfl) rfl; clear hl; have hl := hl2; clear hl2
                          refine then_normal ?_
                          refine ⟨i3 + 1, (by omega), ⟨by omega, take_next hI3 hon hnB⟩, hl.addE (t := 108) (hl.addE (t := 2) (hl.addE (t := 3) (hl.addE (t := 5) (hl.addE (t := 6) (hl.addE (t := 7) (hl.addE (t := 9) (hl.addE (t := 15) (hl.addE (t := 61) (hl.addE (t := 62) (hl.addE (t := 63) (hl.addE (t := 106) (hl.addE (t := 107) (hl.nil) rfl (by first | rfl | exact congrArg (Value.int .i64) (show (i3 : Int) + 1 = ((i3 + 1 : Nat) : Int) by omega) | (rw [hq4]) | (rw [hq5]) | (rw [hq6]))) rfl (by first | rfl | exact congrArg (Value.int .i64) (show (i3 : Int) + 1 = ((i3 + 1 : Nat) : Int) by omega) | (rw [hq4]) | (rw [hq5]) | (rw [hq6]))) rfl (by first | rfl | exact congrArg (Value.int .i64) (show (i3 : Int) + 1 = ((i3 + 1 : Nat) : Int) by omega) | (rw [hq4]) | (rw [hq5]) | (rw [hq6]))) rfl (by first | rfl | exact congrArg (Value.int .i64) (show (i3 : Int) + 1 = ((i3 + 1 : Nat) : Int) by omega) | (rw [hq4]) | (rw [hq5]) | (rw [hq6]))) rfl (by first | rfl | exact congrArg (Value.int .i64) (show (i3 : Int) + 1 = ((i3 + 1 : Nat) : Int) by omega) | (rw [hq4]) | (rw [hq5]) | (rw [hq6]))) rfl (by first | rfl | exact congrArg (Value.int .i64) (show (i3 : Int) + 1 = ((i3 + 1 : Nat) : Int) by omega) | (rw [hq4]) | (rw [hq5]) | (rw [hq6]))) rfl (by first | rfl | exact congrArg (Value.int .i64) (show (i3 : Int) + 1 = ((i3 + 1 : Nat) : Int) by omega) | (rw [hq4]) | (rw [hq5]) | (rw [hq6]))) rfl (by first | rfl | exact congrArg (Value.int .i64) (show (i3 : Int) + 1 = ((i3 + 1 : Nat) : Int) by omega) | (rw [hq4]) | (rw [hq5]) | (rw [hq6]))) rfl (by first | rfl | exact congrArg (Value.int .i64) (show (i3 : Int) + 1 = ((i3 + 1 : Nat) : Int) by omega) | (rw [hq4]) | (rw [hq5]) | (rw [hq6]))) rfl (by first | rfl | exact congrArg (Value.int .i64) (show (i3 : Int) + 1 = ((i3 + 1 : Nat) : Int) by omega) | (rw [hq4]) | (rw [hq5]) | (rw [hq6]))) rfl (by first | rfl | exact congrArg (Value.int .i64) (show (i3 : Int) + 1 = ((i3 + 1 : Nat) : Int) by omega) | (rw [hq4]) | (rw [hq5]) | (rw [hq6]))) rfl (by first | rfl | exact congrArg (Value.int .i64) (show (i3 : Int) + 1 = ((i3 + 1 : Nat) : Int) by omega) | (rw [hq4]) | (rw [hq5]) | (rw [hq6]))) rfl (by first | rfl | exact congrArg (Value.int .i64) (show (i3 : Int) + 1 = ((i3 + 1 : Nat) : Int) by omega) | (rw [hq4]) | (rw [hq5]) | (rw [hq6])), hh.keep (by repeat (first | exact keeps_nil | apply keeps_cons (by repeat (first | exact find_head | apply find_tail | apply find_skip)) (by first  | (rw [hq5]) | (rw [hq6]) | rfl) | exact keeps_self | exact keeps_left | apply keeps_app | apply keeps_mv | apply keeps_skip))⟩
                        · intro hg3; clear hl; intro hl
                          try simp only [decide_eq_true_eq, decide_eq_false_iff_not, Bool.not_eq_true', Bool.not_eq_false', Bool.not_eq_true, Bool.not_eq_false, Bool.and_eq_true, Bool.or_eq_true, Bool.and_eq_false_iff, Bool.or_eq_false_iff, Bool.not_not, ne_eq, Int.not_lt, Int.not_le, Decidable.not_not, beq_iff_eq, bne_iff_ne] at hg3
                          refine wl (wl_val hl rfl ⟨_, _, rfl, rfl, rfl⟩ (r_field hl rfl fld44_1) ?_)
                          clear hl a; intro a hl
                          first | refine wl (w_load hl hh rfl ⟨_, _, rfl, rfl, rfl⟩ one42 rfl (by repeat (first | exact find_head | apply find_tail | apply find_skip)) (by first | rfl) ?_) | refine wl (wl_val hl rfl ⟨_, _, rfl, rfl, rfl⟩ (r_load hl rfl one42 (hh.mem _ _ (by repeat (first | exact hb1m | exact List.mem_append_left _ hb1m | apply List.mem_cons_of_mem | apply List.mem_append_right))) (List.getElem?_toArray.trans hd1)) ?_) | refine wl (wl_val hl rfl ⟨_, _, rfl, rfl, rfl⟩ (r_load hl rfl one42 (hh.mem _ _ (by repeat (first | exact hb2m | exact List.mem_append_left _ hb2m | apply List.mem_cons_of_mem | apply List.mem_append_right))) (List.getElem?_toArray.trans hd2)) ?_) | refine wl (wl_val hl rfl ⟨_, _, rfl, rfl, rfl⟩ (r_load hl rfl one42 (hh.mem _ _ (by repeat (first | exact hb3m | exact List.mem_append_left _ hb3m | apply List.mem_cons_of_mem | apply List.mem_append_right))) (List.getElem?_toArray.trans hd3)) ?_) | refine wl (wl_val hl rfl ⟨_, _, rfl, rfl, rfl⟩ (r_load hl rfl one42 (hh.mem _ _ (by repeat (first | exact hmemS | exact List.mem_append_left _ hmemS | apply List.mem_cons_of_mem | apply List.mem_append_right))) (List.getElem?_toArray.trans hd4)) ?_) | refine wl (wl_val hl rfl ⟨_, _, rfl, rfl, rfl⟩ (r_load hl rfl one42 (hh.mem _ _ (by repeat (first | exact hb4m | exact List.mem_append_left _ hb4m | apply List.mem_cons_of_mem | apply List.mem_append_right))) (List.getElem?_toArray.trans hd6)) ?_) | refine wl (wl_val hl rfl ⟨_, _, rfl, rfl, rfl⟩ (r_load hl rfl one42 (hh.mem _ _ (by repeat (first | exact hmemO | exact List.mem_append_left _ hmemO | apply List.mem_cons_of_mem | apply List.mem_append_right))) (List.getElem?_toArray.trans hd7)) ?_)
                          clear hl a; intro a hl
                          refine wl (wl_val hl rfl ⟨_, _, rfl, rfl, rfl⟩ (r_field hl rfl fld44_1) ?_)
                          clear hl a; intro a hl
                          first | refine wl (w_load hl hh rfl ⟨_, _, rfl, rfl, rfl⟩ one42 rfl (by repeat (first | exact find_head | apply find_tail | apply find_skip)) (by first | rfl) ?_) | refine wl (wl_val hl rfl ⟨_, _, rfl, rfl, rfl⟩ (r_load hl rfl one42 (hh.mem _ _ (by repeat (first | exact hb1m | exact List.mem_append_left _ hb1m | apply List.mem_cons_of_mem | apply List.mem_append_right))) (List.getElem?_toArray.trans hd1)) ?_) | refine wl (wl_val hl rfl ⟨_, _, rfl, rfl, rfl⟩ (r_load hl rfl one42 (hh.mem _ _ (by repeat (first | exact hb2m | exact List.mem_append_left _ hb2m | apply List.mem_cons_of_mem | apply List.mem_append_right))) (List.getElem?_toArray.trans hd2)) ?_) | refine wl (wl_val hl rfl ⟨_, _, rfl, rfl, rfl⟩ (r_load hl rfl one42 (hh.mem _ _ (by repeat (first | exact hb3m | exact List.mem_append_left _ hb3m | apply List.mem_cons_of_mem | apply List.mem_append_right))) (List.getElem?_toArray.trans hd3)) ?_) | refine wl (wl_val hl rfl ⟨_, _, rfl, rfl, rfl⟩ (r_load hl rfl one42 (hh.mem _ _ (by repeat (first | exact hmemS | exact List.mem_append_left _ hmemS | apply List.mem_cons_of_mem | apply List.mem_append_right))) (List.getElem?_toArray.trans hd4)) ?_) | refine wl (wl_val hl rfl ⟨_, _, rfl, rfl, rfl⟩ (r_load hl rfl one42 (hh.mem _ _ (by repeat (first | exact hb4m | exact List.mem_append_left _ hb4m | apply List.mem_cons_of_mem | apply List.mem_append_right))) (List.getElem?_toArray.trans hd6)) ?_) | refine wl (wl_val hl rfl ⟨_, _, rfl, rfl, rfl⟩ (r_load hl rfl one42 (hh.mem _ _ (by repeat (first | exact hmemO | exact List.mem_append_left _ hmemO | apply List.mem_cons_of_mem | apply List.mem_append_right))) (List.getElem?_toArray.trans hd7)) ?_)
                          clear hl a; intro a hl
                          refine wl (wl_val hl rfl ⟨_, _, rfl, rfl, rfl⟩ (r_neq hl rfl rfl) ?_)
                          clear hl a; intro a hl
                          refine wl (wl_val hl rfl trivial (r_pickF hl rfl rfl) ?_)
                          clear hl a; intro a hl
                          refine wl (wl_val hl rfl trivial (r_move hl rfl) ?_)
                          clear hl a; intro a hl
                          refine sl_split (t := 141) hl rfl ?_ ?_
                          · intro hg4; clear hl; intro hl
                            try simp only [decide_eq_true_eq, decide_eq_false_iff_not, Bool.not_eq_true', Bool.not_eq_false', Bool.not_eq_true, Bool.not_eq_false, Bool.and_eq_true, Bool.or_eq_true, Bool.and_eq_false_iff, Bool.or_eq_false_iff, Bool.not_not, ne_eq, Int.not_lt, Int.not_le, Decidable.not_not, beq_iff_eq, bne_iff_ne] at hg4
                            refine wl (wl_skip hl rfl ⟨_, _, rfl, rfl, rfl⟩ ?_)
                            clear hl a; intro a hl
                            refine wl (wl_skip hl rfl ⟨_, _, rfl, rfl, rfl⟩ ?_)
                            clear hl a; intro a hl
                            refine wl (wl_skip hl rfl ⟨_, _, rfl, rfl, rfl⟩ ?_)
                            clear hl a; intro a hl
                            refine wl (wl_skip hl rfl ⟨_, _, rfl, rfl, rfl⟩ ?_)
                            clear hl a; intro a hl
                            refine wl (wl_skip hl rfl ⟨_, _, rfl, rfl, rfl⟩ ?_)
                            clear hl a; intro a hl
                            refine wl (wl_skip hl rfl ⟨_, _, rfl, rfl, rfl⟩ ?_)
                            clear hl a; intro a hl
                            refine wl (wl_skip hl rfl ⟨_, _, rfl, rfl, rfl⟩ ?_)
                            clear hl a; intro a hl
                            refine wl (wl_val hl rfl trivial (r_pickT hl rfl rfl) ?_)
                            clear hl a; intro a hl
                            refine wl (wl_val hl rfl trivial (r_move hl rfl) ?_)
                            clear hl a; intro a hl
                            refine wl (wl_skip hl rfl ⟨_, _, rfl, rfl, rfl⟩ ?_)
                            clear hl a; intro a hl
                            refine wl (wl_skip hl rfl ⟨_, _, rfl, rfl, rfl⟩ ?_)
                            clear hl a; intro a hl
                            refine wl (wl_skip hl rfl ⟨_, _, rfl, rfl, rfl⟩ ?_)
                            clear hl a; intro a hl
                            refine wl (wl_skip hl rfl ⟨_, _, rfl, rfl, rfl⟩ ?_)
                            clear hl a; intro a hl
                            refine wl (wl_skip hl rfl ⟨_, _, rfl, rfl, rfl⟩ ?_)
                            clear hl a; intro a hl
                            refine wl (wl_skip hl rfl ⟨_, _, rfl, rfl, rfl⟩ ?_)
                            clear hl a; intro a hl
                            refine wl (wl_skip hl rfl ⟨_, _, rfl, rfl, rfl⟩ ?_)
                            clear hl a; intro a hl
                            refine wl (wl_skip hl rfl ⟨_, _, rfl, rfl, rfl⟩ ?_)
                            clear hl a; intro a hl
                            refine wl (wl_val hl rfl trivial (r_pickT hl rfl rfl) ?_)
                            clear hl a; intro a hl
                            refine w_nil ?_
                            have hl2 := hl.add (t := 2) (hl.add (t := 3) (hl.add (t := 5) (hl.add (t := 6) (hl.add (t := 7) (hl.add (t := 9) (hl.add (t := 15) (hl.add (t := 18) (hl.add (t := 61) (hl.add (t := 62) (hl.add (t := 63) (hl.add (t := 106) (hl.add (t := 107) (hl.add (t := 108) (hl.add (t := 112) (hl.add (t := 113) (hl.add (t := 114) (hl.add (t := 159) (hl.nil) rfl) rfl) rfl) rfl) rfl) rfl) rfl) rfl) rfl) rfl) rfl) rfl) rfl) rfl) rfl) rfl) rfl) rfl; clear hl; have hl := hl2; clear hl2
                            refine then_normal ?_
                            refine c_condT hl rfl ?_
                            have hxy : ¬ x.l = y.l := by
                              first
                              | exact fun h9 => absurd (lt_eq.1 h9).1 (by assumption)
                              | exact fun h9 => absurd (lt_eq.1 h9).2.1 (by assumption)
                              | exact fun h9 => by_f (by assumption) (lt_eq.1 h9).2.2.1
                              | exact fun h9 => absurd (lt_eq.1 h9).2.2.2 (by assumption)
                            have hnB : ¬ MtB r.ru t.ru s.l o.l := mtb_no (L := r'.ls.map LV.l) hrn.b (fun i hi => by have := perm_rng hop9 hi; rw [List.length_map, hrn.n]; omega) hq (map_at LV.l hx) (map_at LV.l hy) hxy
                            refine c_seq ?_
                            refine c_region ?_
                            refine wl (wl_val hl rfl trivial (r_assign hl rfl) ?_)
                            clear hl a; intro a hl
                            refine w_nil ?_
                            have hl2 := hl.add (t := 2) (hl.add (t := 3) (hl.add (t := 5) (hl.add (t := 6) (hl.add (t := 7) (hl.add (t := 9) (hl.add (t := 15) (hl.add (t := 18) (hl.add (t := 61) (hl.add (t := 62) (hl.add (t := 63) (hl.add (t := 106) (hl.add (t := 107) (hl.add (t := 108) (hl.nil) rfl) rfl) rfl) rfl) rfl) rfl) rfl) rfl) rfl) rfl) rfl) rfl) rfl) rfl; clear hl; have hl := hl2; clear hl2
                            refine then_normal ?_
                            refine wp_exit ?_
                            refine blk_exit_ne rfl ?_
                            refine then_exit ?_
                            refine then_exit ?_
                            refine blk_exit ?_
                            refine then_normal ?_
                            refine c_seq ?_
                            refine c_region ?_
                            refine wl (wl_val hl rfl trivial (r_move hl rfl) ?_)
                            clear hl a; intro a hl
                            refine w_nil ?_
                            have hl2 := hl.add (t := 2) (hl.add (t := 3) (hl.add (t := 5) (hl.add (t := 6) (hl.add (t := 7) (hl.add (t := 9) (hl.add (t := 15) (hl.add (t := 61) (hl.add (t := 62) (hl.add (t := 63) (hl.add (t := 106) (hl.add (t := 107) (hl.add (t := 108) (hl.add (t := 161) (hl.nil) rfl) rfl) rfl) rfl) rfl) rfl) rfl) rfl) rfl) rfl) rfl) rfl) rfl) rfl; clear hl; have hl := hl2; clear hl2
                            refine then_normal ?_
                            refine c_condF hl rfl ?_
                            have hnB : ¬ MtB r.ru t.ru s.l o.l := by
                              first
                              | assumption
                              | (exfalso; simp at hc8; done)
                              | contradiction
                            refine wp_skip ?_
                            refine blk_normal ?_
                            refine then_normal ?_
                            refine c_region ?_
                            first | refine wl (wl_val hl rfl trivial (r_add hl rfl rfl (by simp only [Fits]; omega)) ?_) | refine wl (wl_val hl rfl trivial (r_addW hl rfl rfl) ?_)
                            clear hl a; intro a hl
                            refine wl (wl_val hl rfl trivial (r_move hl rfl) ?_)
                            clear hl a; intro a hl
                            refine w_nil ?_
                            have hl2 := hl.add (t := 2) (hl.add (t := 3) (hl.add (t := 5) (hl.add (t := 6) (hl.add (t := 7) (hl.add (t := 9) (hl.add (t := 15) (hl.add (t := 61) (hl.add (t := 62) (hl.add (t := 63) (hl.add (t := 106) (hl.add (t := 107) (hl.add (t := 108) (hl.nil) rfl) rfl) rfl) rfl) rfl) rfl) rfl) rfl) rfl) rfl) rfl) rfl) rfl; clear hl; have hl := hl2; clear hl2
                            refine then_normal ?_
                            refine ⟨i3 + 1, (by omega), ⟨by omega, take_next hI3 hon hnB⟩, hl.addE (t := 108) (hl.addE (t := 2) (hl.addE (t := 3) (hl.addE (t := 5) (hl.addE (t := 6) (hl.addE (t := 7) (hl.addE (t := 9) (hl.addE (t := 15) (hl.addE (t := 61) (hl.addE (t := 62) (hl.addE (t := 63) (hl.addE (t := 106) (hl.addE (t := 107) (hl.nil) rfl (by first | rfl | exact congrArg (Value.int .i64) (show (i3 : Int) + 1 = ((i3 + 1 : Nat) : Int) by omega) | (rw [hq4]) | (rw [hq5]) | (rw [hq6]))) rfl (by first | rfl | exact congrArg (Value.int .i64) (show (i3 : Int) + 1 = ((i3 + 1 : Nat) : Int) by omega) | (rw [hq4]) | (rw [hq5]) | (rw [hq6]))) rfl (by first | rfl | exact congrArg (Value.int .i64) (show (i3 : Int) + 1 = ((i3 + 1 : Nat) : Int) by omega) | (rw [hq4]) | (rw [hq5]) | (rw [hq6]))) rfl (by first | rfl | exact congrArg (Value.int .i64) (show (i3 : Int) + 1 = ((i3 + 1 : Nat) : Int) by omega) | (rw [hq4]) | (rw [hq5]) | (rw [hq6]))) rfl (by first | rfl | exact congrArg (Value.int .i64) (show (i3 : Int) + 1 = ((i3 + 1 : Nat) : Int) by omega) | (rw [hq4]) | (rw [hq5]) | (rw [hq6]))) rfl (by first | rfl | exact congrArg (Value.int .i64) (show (i3 : Int) + 1 = ((i3 + 1 : Nat) : Int) by omega) | (rw [hq4]) | (rw [hq5]) | (rw [hq6]))) rfl (by first | rfl | exact congrArg (Value.int .i64) (show (i3 : Int) + 1 = ((i3 + 1 : Nat) : Int) by omega) | (rw [hq4]) | (rw [hq5]) | (rw [hq6]))) rfl (by first | rfl | exact congrArg (Value.int .i64) (show (i3 : Int) + 1 = ((i3 + 1 : Nat) : Int) by omega) | (rw [hq4]) | (rw [hq5]) | (rw [hq6]))) rfl (by first | rfl | exact congrArg (Value.int .i64) (show (i3 : Int) + 1 = ((i3 + 1 : Nat) : Int) by omega) | (rw [hq4]) | (rw [hq5]) | (rw [hq6]))) rfl (by first | rfl | exact congrArg (Value.int .i64) (show (i3 : Int) + 1 = ((i3 + 1 : Nat) : Int) by omega) | (rw [hq4]) | (rw [hq5]) | (rw [hq6]))) rfl (by first | rfl | exact congrArg (Value.int .i64) (show (i3 : Int) + 1 = ((i3 + 1 : Nat) : Int) by omega) | (rw [hq4]) | (rw [hq5]) | (rw [hq6]))) rfl (by first | rfl | exact congrArg (Value.int .i64) (show (i3 : Int) + 1 = ((i3 + 1 : Nat) : Int) by omega) | (rw [hq4]) | (rw [hq5]) | (rw [hq6]))) rfl (by first | rfl | exact congrArg (Value.int .i64) (show (i3 : Int) + 1 = ((i3 + 1 : Nat) : Int) by omega) | (rw [hq4]) | (rw [hq5]) | (rw [hq6])), hh.keep (by repeat (first | exact keeps_nil | apply keeps_cons (by repeat (first | exact find_head | apply find_tail | apply find_skip)) (by first  | (rw [hq5]) | (rw [hq6]) | rfl) | exact keeps_self | exact keeps_left | apply keeps_app | apply keeps_mv | apply keeps_skip))⟩
                          · intro hg4; clear hl; intro hl
                            try simp only [decide_eq_true_eq, decide_eq_false_iff_not, Bool.not_eq_true', Bool.not_eq_false', Bool.not_eq_true, Bool.not_eq_false, Bool.and_eq_true, Bool.or_eq_true, Bool.and_eq_false_iff, Bool.or_eq_false_iff, Bool.not_not, ne_eq, Int.not_lt, Int.not_le, Decidable.not_not, beq_iff_eq, bne_iff_ne] at hg4
                            refine wl (wl_val hl rfl ⟨_, _, rfl, rfl, rfl⟩ (r_field hl rfl fld44_2) ?_)
                            clear hl a; intro a hl
                            refine wl (wl_val hl rfl ⟨_, _, rfl, rfl, rfl⟩ (r_field hl rfl fld32_0) ?_)
                            clear hl a; intro a hl
                            first | refine wl (w_load hl hh rfl ⟨_, _, rfl, rfl, rfl⟩ one9 rfl (by repeat (first | exact find_head | apply find_tail | apply find_skip)) (by first | rfl) ?_) | refine wl (wl_val hl rfl ⟨_, _, rfl, rfl, rfl⟩ (r_load hl rfl one9 (hh.mem _ _ (by repeat (first | exact hb1m | exact List.mem_append_left _ hb1m | apply List.mem_cons_of_mem | apply List.mem_append_right))) (List.getElem?_toArray.trans hd1)) ?_) | refine wl (wl_val hl rfl ⟨_, _, rfl, rfl, rfl⟩ (r_load hl rfl one9 (hh.mem _ _ (by repeat (first | exact hb2m | exact List.mem_append_left _ hb2m | apply List.mem_cons_of_mem | apply List.mem_append_right))) (List.getElem?_toArray.trans hd2)) ?_) | refine wl (wl_val hl rfl ⟨_, _, rfl, rfl, rfl⟩ (r_load hl rfl one9 (hh.mem _ _ (by repeat (first | exact hb3m | exact List.mem_append_left _ hb3m | apply List.mem_cons_of_mem | apply List.mem_append_right))) (List.getElem?_toArray.trans hd3)) ?_) | refine wl (wl_val hl rfl ⟨_, _, rfl, rfl, rfl⟩ (r_load hl rfl one9 (hh.mem _ _ (by repeat (first | exact hmemS | exact List.mem_append_left _ hmemS | apply List.mem_cons_of_mem | apply List.mem_append_right))) (List.getElem?_toArray.trans hd4)) ?_) | refine wl (wl_val hl rfl ⟨_, _, rfl, rfl, rfl⟩ (r_load hl rfl one9 (hh.mem _ _ (by repeat (first | exact hb4m | exact List.mem_append_left _ hb4m | apply List.mem_cons_of_mem | apply List.mem_append_right))) (List.getElem?_toArray.trans hd6)) ?_) | refine wl (wl_val hl rfl ⟨_, _, rfl, rfl, rfl⟩ (r_load hl rfl one9 (hh.mem _ _ (by repeat (first | exact hmemO | exact List.mem_append_left _ hmemO | apply List.mem_cons_of_mem | apply List.mem_append_right))) (List.getElem?_toArray.trans hd7)) ?_)
                            clear hl a; intro a hl
                            refine wl (wl_val hl rfl ⟨_, _, rfl, rfl, rfl⟩ (r_field hl rfl fld44_2) ?_)
                            clear hl a; intro a hl
                            refine wl (wl_val hl rfl ⟨_, _, rfl, rfl, rfl⟩ (r_field hl rfl fld32_0) ?_)
                            clear hl a; intro a hl
                            first | refine wl (w_load hl hh rfl ⟨_, _, rfl, rfl, rfl⟩ one9 rfl (by repeat (first | exact find_head | apply find_tail | apply find_skip)) (by first | rfl) ?_) | refine wl (wl_val hl rfl ⟨_, _, rfl, rfl, rfl⟩ (r_load hl rfl one9 (hh.mem _ _ (by repeat (first | exact hb1m | exact List.mem_append_left _ hb1m | apply List.mem_cons_of_mem | apply List.mem_append_right))) (List.getElem?_toArray.trans hd1)) ?_) | refine wl (wl_val hl rfl ⟨_, _, rfl, rfl, rfl⟩ (r_load hl rfl one9 (hh.mem _ _ (by repeat (first | exact hb2m | exact List.mem_append_left _ hb2m | apply List.mem_cons_of_mem | apply List.mem_append_right))) (List.getElem?_toArray.trans hd2)) ?_) | refine wl (wl_val hl rfl ⟨_, _, rfl, rfl, rfl⟩ (r_load hl rfl one9 (hh.mem _ _ (by repeat (first | exact hb3m | exact List.mem_append_left _ hb3m | apply List.mem_cons_of_mem | apply List.mem_append_right))) (List.getElem?_toArray.trans hd3)) ?_) | refine wl (wl_val hl rfl ⟨_, _, rfl, rfl, rfl⟩ (r_load hl rfl one9 (hh.mem _ _ (by repeat (first | exact hmemS | exact List.mem_append_left _ hmemS | apply List.mem_cons_of_mem | apply List.mem_append_right))) (List.getElem?_toArray.trans hd4)) ?_) | refine wl (wl_val hl rfl ⟨_, _, rfl, rfl, rfl⟩ (r_load hl rfl one9 (hh.mem _ _ (by repeat (first | exact hb4m | exact List.mem_append_left _ hb4m | apply List.mem_cons_of_mem | apply List.mem_append_right))) (List.getElem?_toArray.trans hd6)) ?_) | refine wl (wl_val hl rfl ⟨_, _, rfl, rfl, rfl⟩ (r_load hl rfl one9 (hh.mem _ _ (by repeat (first | exact hmemO | exact List.mem_append_left _ hmemO | apply List.mem_cons_of_mem | apply List.mem_append_right))) (List.getElem?_toArray.trans hd7)) ?_)
                            clear hl a; intro a hl
                            refine wl (wl_val hl rfl ⟨_, _, rfl, rfl, rfl⟩ (r_neq_string hl rfl rfl) ?_)
                            clear hl a; intro a hl
                            refine wl (wl_val hl rfl trivial (r_pickF hl rfl rfl) ?_)
                            clear hl a; intro a hl
                            refine wl (wl_val hl rfl trivial (r_move hl rfl) ?_)
                            clear hl a; intro a hl
                            refine sl_split (t := 150) hl rfl ?_ ?_
                            · intro hg5; clear hl; intro hl
                              try simp only [decide_eq_true_eq, decide_eq_false_iff_not, Bool.not_eq_true', Bool.not_eq_false', Bool.not_eq_true, Bool.not_eq_false, Bool.and_eq_true, Bool.or_eq_true, Bool.and_eq_false_iff, Bool.or_eq_false_iff, Bool.not_not, ne_eq, Int.not_lt, Int.not_le, Decidable.not_not, beq_iff_eq, bne_iff_ne] at hg5
                              refine wl (wl_skip hl rfl ⟨_, _, rfl, rfl, rfl⟩ ?_)
                              clear hl a; intro a hl
                              refine wl (wl_skip hl rfl ⟨_, _, rfl, rfl, rfl⟩ ?_)
                              clear hl a; intro a hl
                              refine wl (wl_skip hl rfl ⟨_, _, rfl, rfl, rfl⟩ ?_)
                              clear hl a; intro a hl
                              refine wl (wl_skip hl rfl ⟨_, _, rfl, rfl, rfl⟩ ?_)
                              clear hl a; intro a hl
                              refine wl (wl_skip hl rfl ⟨_, _, rfl, rfl, rfl⟩ ?_)
                              clear hl a; intro a hl
                              refine wl (wl_skip hl rfl ⟨_, _, rfl, rfl, rfl⟩ ?_)
                              clear hl a; intro a hl
                              refine wl (wl_skip hl rfl ⟨_, _, rfl, rfl, rfl⟩ ?_)
                              clear hl a; intro a hl
                              refine wl (wl_skip hl rfl ⟨_, _, rfl, rfl, rfl⟩ ?_)
                              clear hl a; intro a hl
                              refine wl (wl_val hl rfl trivial (r_pickT hl rfl rfl) ?_)
                              clear hl a; intro a hl
                              refine w_nil ?_
                              have hl2 := hl.add (t := 2) (hl.add (t := 3) (hl.add (t := 5) (hl.add (t := 6) (hl.add (t := 7) (hl.add (t := 9) (hl.add (t := 15) (hl.add (t := 18) (hl.add (t := 61) (hl.add (t := 62) (hl.add (t := 63) (hl.add (t := 106) (hl.add (t := 107) (hl.add (t := 108) (hl.add (t := 112) (hl.add (t := 113) (hl.add (t := 114) (hl.add (t := 159) (hl.nil) rfl) rfl) rfl) rfl) rfl) rfl) rfl) rfl) rfl) rfl) rfl) rfl) rfl) rfl) rfl) rfl) rfl) rfl; clear hl; have hl := hl2; clear hl2
                              refine then_normal ?_
                              refine c_condT hl rfl ?_
                              have hxy : ¬ x.l = y.l := by
                                first
                                | exact fun h9 => absurd (lt_eq.1 h9).1 (by assumption)
                                | exact fun h9 => absurd (lt_eq.1 h9).2.1 (by assumption)
                                | exact fun h9 => by_f (by assumption) (lt_eq.1 h9).2.2.1
                                | exact fun h9 => absurd (lt_eq.1 h9).2.2.2 (by assumption)
                              have hnB : ¬ MtB r.ru t.ru s.l o.l := mtb_no (L := r'.ls.map LV.l) hrn.b (fun i hi => by have := perm_rng hop9 hi; rw [List.length_map, hrn.n]; omega) hq (map_at LV.l hx) (map_at LV.l hy) hxy
                              refine c_seq ?_
                              refine c_region ?_
                              refine wl (wl_val hl rfl trivial (r_assign hl rfl) ?_)
                              clear hl a; intro a hl
                              refine w_nil ?_
                              have hl2 := hl.add (t := 2) (hl.add (t := 3) (hl.add (t := 5) (hl.add (t := 6) (hl.add (t := 7) (hl.add (t := 9) (hl.add (t := 15) (hl.add (t := 18) (hl.add (t := 61) (hl.add (t := 62) (hl.add (t := 63) (hl.add (t := 106) (hl.add (t := 107) (hl.add (t := 108) (hl.nil) rfl) rfl) rfl) rfl) rfl) rfl) rfl) rfl) rfl) rfl) rfl) rfl) rfl) rfl; clear hl; have hl := hl2; clear hl2
                              refine then_normal ?_
                              refine wp_exit ?_
                              refine blk_exit_ne rfl ?_
                              refine then_exit ?_
                              refine then_exit ?_
                              refine blk_exit ?_
                              refine then_normal ?_
                              refine c_seq ?_
                              refine c_region ?_
                              refine wl (wl_val hl rfl trivial (r_move hl rfl) ?_)
                              clear hl a; intro a hl
                              refine w_nil ?_
                              have hl2 := hl.add (t := 2) (hl.add (t := 3) (hl.add (t := 5) (hl.add (t := 6) (hl.add (t := 7) (hl.add (t := 9) (hl.add (t := 15) (hl.add (t := 61) (hl.add (t := 62) (hl.add (t := 63) (hl.add (t := 106) (hl.add (t := 107) (hl.add (t := 108) (hl.add (t := 161) (hl.nil) rfl) rfl) rfl) rfl) rfl) rfl) rfl) rfl) rfl) rfl) rfl) rfl) rfl) rfl; clear hl; have hl := hl2; clear hl2
                              refine then_normal ?_
                              refine c_condF hl rfl ?_
                              have hnB : ¬ MtB r.ru t.ru s.l o.l := by
                                first
                                | assumption
                                | (exfalso; simp at hc8; done)
                                | contradiction
                              refine wp_skip ?_
                              refine blk_normal ?_
                              refine then_normal ?_
                              refine c_region ?_
                              first | refine wl (wl_val hl rfl trivial (r_add hl rfl rfl (by simp only [Fits]; omega)) ?_) | refine wl (wl_val hl rfl trivial (r_addW hl rfl rfl) ?_)
                              clear hl a; intro a hl
                              refine wl (wl_val hl rfl trivial (r_move hl rfl) ?_)
                              clear hl a; intro a hl
                              refine w_nil ?_
                              have hl2 := hl.add (t := 2) (hl.add (t := 3) (hl.add (t := 5) (hl.add (t := 6) (hl.add (t := 7) (hl.add (t := 9) (hl.add (t := 15) (hl.add (t := 61) (hl.add (t := 62) (hl.add (t := 63) (hl.add (t := 106) (hl.add (t := 107) (hl.add (t := 108) (hl.nil) rfl) rfl) rfl) rfl) rfl) rfl) rfl) rfl) rfl) rfl) rfl) rfl) rfl; clear hl; have hl := hl2; clear hl2
                              refine then_normal ?_
                              refine ⟨i3 + 1, (by omega), ⟨by omega, take_next hI3 hon hnB⟩, hl.addE (t := 108) (hl.addE (t := 2) (hl.addE (t := 3) (hl.addE (t := 5) (hl.addE (t := 6) (hl.addE (t := 7) (hl.addE (t := 9) (hl.addE (t := 15) (hl.addE (t := 61) (hl.addE (t := 62) (hl.addE (t := 63) (hl.addE (t := 106) (hl.addE (t := 107) (hl.nil) rfl (by first | rfl | exact congrArg (Value.int .i64) (show (i3 : Int) + 1 = ((i3 + 1 : Nat) : Int) by omega) | (rw [hq4]) | (rw [hq5]) | (rw [hq6]))) rfl (by first | rfl | exact congrArg (Value.int .i64) (show (i3 : Int) + 1 = ((i3 + 1 : Nat) : Int) by omega) | (rw [hq4]) | (rw [hq5]) | (rw [hq6]))) rfl (by first | rfl | exact congrArg (Value.int .i64) (show (i3 : Int) + 1 = ((i3 + 1 : Nat) : Int) by omega) | (rw [hq4]) | (rw [hq5]) | (rw [hq6]))) rfl (by first | rfl | exact congrArg (Value.int .i64) (show (i3 : Int) + 1 = ((i3 + 1 : Nat) : Int) by omega) | (rw [hq4]) | (rw [hq5]) | (rw [hq6]))) rfl (by first | rfl | exact congrArg (Value.int .i64) (show (i3 : Int) + 1 = ((i3 + 1 : Nat) : Int) by omega) | (rw [hq4]) | (rw [hq5]) | (rw [hq6]))) rfl (by first | rfl | exact congrArg (Value.int .i64) (show (i3 : Int) + 1 = ((i3 + 1 : Nat) : Int) by omega) | (rw [hq4]) | (rw [hq5]) | (rw [hq6]))) rfl (by first | rfl | exact congrArg (Value.int .i64) (show (i3 : Int) + 1 = ((i3 + 1 : Nat) : Int) by omega) | (rw [hq4]) | (rw [hq5]) | (rw [hq6]))) rfl (by first | rfl | exact congrArg (Value.int .i64) (show (i3 : Int) + 1 = ((i3 + 1 : Nat) : Int) by omega) | (rw [hq4]) | (rw [hq5]) | (rw [hq6]))) rfl (by first | rfl | exact congrArg (Value.int .i64) (show (i3 : Int) + 1 = ((i3 + 1 : Nat) : Int) by omega) | (rw [hq4]) | (rw [hq5]) | (rw [hq6]))) rfl (by first | rfl | exact congrArg (Value.int .i64) (show (i3 : Int) + 1 = ((i3 + 1 : Nat) : Int) by omega) | (rw [hq4]) | (rw [hq5]) | (rw [hq6]))) rfl (by first | rfl | exact congrArg (Value.int .i64) (show (i3 : Int) + 1 = ((i3 + 1 : Nat) : Int) by omega) | (rw [hq4]) | (rw [hq5]) | (rw [hq6]))) rfl (by first | rfl | exact congrArg (Value.int .i64) (show (i3 : Int) + 1 = ((i3 + 1 : Nat) : Int) by omega) | (rw [hq4]) | (rw [hq5]) | (rw [hq6]))) rfl (by first | rfl | exact congrArg (Value.int .i64) (show (i3 : Int) + 1 = ((i3 + 1 : Nat) : Int) by omega) | (rw [hq4]) | (rw [hq5]) | (rw [hq6])), hh.keep (by repeat (first | exact keeps_nil | apply keeps_cons (by repeat (first | exact find_head | apply find_tail | apply find_skip)) (by first  | (rw [hq5]) | (rw [hq6]) | rfl) | exact keeps_self | exact keeps_left | apply keeps_app | apply keeps_mv | apply keeps_skip))⟩
                            · intro hg5; clear hl; intro hl
                              try simp only [decide_eq_true_eq, decide_eq_false_iff_not, Bool.not_eq_true', Bool.not_eq_false', Bool.not_eq_true, Bool.not_eq_false, Bool.and_eq_true, Bool.or_eq_true, Bool.and_eq_false_iff, Bool.or_eq_false_iff, Bool.not_not, ne_eq, Int.not_lt, Int.not_le, Decidable.not_not, beq_iff_eq, bne_iff_ne] at hg5
                              refine wl (wl_val hl rfl ⟨_, _, rfl, rfl, rfl⟩ (r_field hl rfl fld44_2) ?_)
                              clear hl a; intro a hl
                              refine wl (wl_val hl rfl ⟨_, _, rfl, rfl, rfl⟩ (r_field hl rfl fld32_1) ?_)
                              clear hl a; intro a hl
                              first | refine wl (w_load hl hh rfl ⟨_, _, rfl, rfl, rfl⟩ one30 rfl (by repeat (first | exact find_head | apply find_tail | apply find_skip)) (by first | rfl) ?_) | refine wl (wl_val hl rfl ⟨_, _, rfl, rfl, rfl⟩ (r_load hl rfl one30 (hh.mem _ _ (by repeat (first | exact hb1m | exact List.mem_append_left _ hb1m | apply List.mem_cons_of_mem | apply List.mem_append_right))) (List.getElem?_toArray.trans hd1)) ?_) | refine wl (wl_val hl rfl ⟨_, _, rfl, rfl, rfl⟩ (r_load hl rfl one30 (hh.mem _ _ (by repeat (first | exact hb2m | exact List.mem_append_left _ hb2m | apply List.mem_cons_of_mem | apply List.mem_append_right))) (List.getElem?_toArray.trans hd2)) ?_) | refine wl (wl_val hl rfl ⟨_, _, rfl, rfl, rfl⟩ (r_load hl rfl one30 (hh.mem _ _ (by repeat (first | exact hb3m | exact List.mem_append_left _ hb3m | apply List.mem_cons_of_mem | apply List.mem_append_right))) (List.getElem?_toArray.trans hd3)) ?_) | refine wl (wl_val hl rfl ⟨_, _, rfl, rfl, rfl⟩ (r_load hl rfl one30 (hh.mem _ _ (by repeat (first | exact hmemS | exact List.mem_append_left _ hmemS | apply List.mem_cons_of_mem | apply List.mem_append_right))) (List.getElem?_toArray.trans hd4)) ?_) | refine wl (wl_val hl rfl ⟨_, _, rfl, rfl, rfl⟩ (r_load hl rfl one30 (hh.mem _ _ (by repeat (first | exact hb4m | exact List.mem_append_left _ hb4m | apply List.mem_cons_of_mem | apply List.mem_append_right))) (List.getElem?_toArray.trans hd6)) ?_) | refine wl (wl_val hl rfl ⟨_, _, rfl, rfl, rfl⟩ (r_load hl rfl one30 (hh.mem _ _ (by repeat (first | exact hmemO | exact List.mem_append_left _ hmemO | apply List.mem_cons_of_mem | apply List.mem_append_right))) (List.getElem?_toArray.trans hd7)) ?_)
                              clear hl a; intro a hl
                              refine wl (wl_val hl rfl ⟨_, _, rfl, rfl, rfl⟩ (r_field hl rfl fld44_2) ?_)
                              clear hl a; intro a hl
                              refine wl (wl_val hl rfl ⟨_, _, rfl, rfl, rfl⟩ (r_field hl rfl fld32_1) ?_)
                              clear hl a; intro a hl
                              first | refine wl (w_load hl hh rfl ⟨_, _, rfl, rfl, rfl⟩ one30 rfl (by repeat (first | exact find_head | apply find_tail | apply find_skip)) (by first | rfl) ?_) | refine wl (wl_val hl rfl ⟨_, _, rfl, rfl, rfl⟩ (r_load hl rfl one30 (hh.mem _ _ (by repeat (first | exact hb1m | exact List.mem_append_left _ hb1m | apply List.mem_cons_of_mem | apply List.mem_append_right))) (List.getElem?_toArray.trans hd1)) ?_) | refine wl (wl_val hl rfl ⟨_, _, rfl, rfl, rfl⟩ (r_load hl rfl one30 (hh.mem _ _ (by repeat (first | exact hb2m | exact List.mem_append_left _ hb2m | apply List.mem_cons_of_mem | apply List.mem_append_right))) (List.getElem?_toArray.trans hd2)) ?_) | refine wl (wl_val hl rfl ⟨_, _, rfl, rfl, rfl⟩ (r_load hl rfl one30 (hh.mem _ _ (by repeat (first | exact hb3m | exact List.mem_append_left _ hb3m | apply List.mem_cons_of_mem | apply List.mem_append_right))) (List.getElem?_toArray.trans hd3)) ?_) | refine wl (wl_val hl rfl ⟨_, _, rfl, rfl, rfl⟩ (r_load hl rfl one30 (hh.mem _ _ (by repeat (first | exact hmemS | exact List.mem_append_left _ hmemS | apply List.mem_cons_of_mem | apply List.mem_append_right))) (List.getElem?_toArray.trans hd4)) ?_) | refine wl (wl_val hl rfl ⟨_, _, rfl, rfl, rfl⟩ (r_load hl rfl one30 (hh.mem _ _ (by repeat (first | exact hb4m | exact List.mem_append_left _ hb4m | apply List.mem_cons_of_mem | apply List.mem_append_right))) (List.getElem?_toArray.trans hd6)) ?_) | refine wl (wl_val hl rfl ⟨_, _, rfl, rfl, rfl⟩ (r_load hl rfl one30 (hh.mem _ _ (by repeat (first | exact hmemO | exact List.mem_append_left _ hmemO | apply List.mem_cons_of_mem | apply List.mem_append_right))) (List.getElem?_toArray.trans hd7)) ?_)
                              clear hl a; intro a hl
                              refine wl (w_call hl hh rfl ⟨_, _, rfl, rfl, rfl⟩ rfl cal58 rfl (eqTs_spec x.l.a y.l.a _ _ _ _ _ _ (hr'.ls x hxm).ags (ht.ls y hym).ags) (by repeat (first | exact keeps_nil | apply keeps_cons (by repeat (first | exact find_head | apply find_tail | apply find_skip)) (by first  | rfl) | exact keeps_self | exact keeps_left | apply keeps_app | apply keeps_mv | apply keeps_skip)) ⟨RV.ml (memK hh (by repeat (first | exact keeps_nil | apply keeps_cons (by repeat (first | exact find_head | apply find_tail | apply find_skip)) (by first  | rfl) | exact keeps_self | exact keeps_left | apply keeps_app | apply keeps_mv | apply keeps_skip))) hxm, mem_keep hh (RV.ml hpre.2 hym)⟩ ?_)
                              clear hl hh a w; intro vc Fc a w hR hl hh
                              obtain ⟨rfl, rfl⟩ := hR
                              try simp only [List.cons_append, List.nil_append, List.append_assoc, List.append_nil] at hh
                              refine wl (wl_val hl rfl ⟨_, _, rfl, rfl, rfl⟩ (r_not hl rfl) ?_)
                              clear hl a; intro a hl
                              refine wl (wl_val hl rfl trivial (r_pickF hl rfl rfl) ?_)
                              clear hl a; intro a hl
                              refine w_nil ?_
                              have hl2 := hl.add (t := 2) (hl.add (t := 3) (hl.add (t := 5) (hl.add (t := 6) (hl.add (t := 7) (hl.add (t := 9) (hl.add (t := 15) (hl.add (t := 18) (hl.add (t := 61) (hl.add (t := 62) (hl.add (t := 63) (hl.add (t := 106) (hl.add (t := 107) (hl.add (t := 108) (hl.add (t := 112) (hl.add (t := 113) (hl.add (t := 114) (hl.add (t := 159) (hl.nil) rfl) rfl) rfl) rfl) rfl) rfl) rfl) rfl) rfl) rfl) rfl) rfl) rfl) rfl) rfl) rfl) rfl) rfl; clear hl; have hl := hl2; clear hl2
                              refine then_normal ?_
                              refine c_cond hl rfl ?_ ?_
                              · intro hc7
                                try simp only [decide_eq_true_eq, decide_eq_false_iff_not, Bool.not_eq_true', Bool.not_eq_false', Bool.not_eq_true, Bool.not_eq_false, Bool.and_eq_true, Bool.or_eq_true, Bool.and_eq_false_iff, Bool.or_eq_false_iff, Bool.not_not, ne_eq, Int.not_lt, Int.not_le, Decidable.not_not, beq_iff_eq, bne_iff_ne] at hc7
                                have hxy : ¬ x.l = y.l := by
                                  first
                                  | exact fun h9 => absurd (lt_eq.1 h9).1 (by assumption)
                                  | exact fun h9 => absurd (lt_eq.1 h9).2.1 (by assumption)
                                  | exact fun h9 => by_f (by assumption) (lt_eq.1 h9).2.2.1
                                  | exact fun h9 => absurd (lt_eq.1 h9).2.2.2 (by assumption)
                                have hnB : ¬ MtB r.ru t.ru s.l o.l := mtb_no (L := r'.ls.map LV.l) hrn.b (fun i hi => by have := perm_rng hop9 hi; rw [List.length_map, hrn.n]; omega) hq (map_at LV.l hx) (map_at LV.l hy) hxy
                                refine c_seq ?_
                                refine c_region ?_
                                refine wl (wl_val hl rfl trivial (r_assign hl rfl) ?_)
                                clear hl a; intro a hl
                                refine w_nil ?_
                                have hl2 := hl.add (t := 2) (hl.add (t := 3) (hl.add (t := 5) (hl.add (t := 6) (hl.add (t := 7) (hl.add (t := 9) (hl.add (t := 15) (hl.add (t := 18) (hl.add (t := 61) (hl.add (t := 62) (hl.add (t := 63) (hl.add (t := 106) (hl.add (t := 107) (hl.add (t := 108) (hl.nil) rfl) rfl) rfl) rfl) rfl) rfl) rfl) rfl) rfl) rfl) rfl) rfl) rfl) rfl; clear hl; have hl := hl2; clear hl2
                                refine then_normal ?_
                                refine wp_exit ?_
                                refine blk_exit_ne rfl ?_
                                refine then_exit ?_
                                refine then_exit ?_
                                refine blk_exit ?_
                                refine then_normal ?_
                                refine c_seq ?_
                                refine c_region ?_
                                refine wl (wl_val hl rfl trivial (r_move hl rfl) ?_)
                                clear hl a; intro a hl
                                refine w_nil ?_
                                have hl2 := hl.add (t := 2) (hl.add (t := 3) (hl.add (t := 5) (hl.add (t := 6) (hl.add (t := 7) (hl.add (t := 9) (hl.add (t := 15) (hl.add (t := 61) (hl.add (t := 62) (hl.add (t := 63) (hl.add (t := 106) (hl.add (t := 107) (hl.add (t := 108) (hl.add (t := 161) (hl.nil) rfl) rfl) rfl) rfl) rfl) rfl) rfl) rfl) rfl) rfl) rfl) rfl) rfl) rfl; clear hl; have hl := hl2; clear hl2
                                refine then_normal ?_
                                refine c_condF hl rfl ?_
                                have hnB : ¬ MtB r.ru t.ru s.l o.l := by
                                  first
                                  | assumption
                                  | (exfalso; simp at hc8; done)
                                  | contradiction
                                refine wp_skip ?_
                                refine blk_normal ?_
                                refine then_normal ?_
                                refine c_region ?_
                                first | refine wl (wl_val hl rfl trivial (r_add hl rfl rfl (by simp only [Fits]; omega)) ?_) | refine wl (wl_val hl rfl trivial (r_addW hl rfl rfl) ?_)
                                clear hl a; intro a hl
                                refine wl (wl_val hl rfl trivial (r_move hl rfl) ?_)
                                clear hl a; intro a hl
                                refine w_nil ?_
                                have hl2 := hl.add (t := 2) (hl.add (t := 3) (hl.add (t := 5) (hl.add (t := 6) (hl.add (t := 7) (hl.add (t := 9) (hl.add (t := 15) (hl.add (t := 61) (hl.add (t := 62) (hl.add (t := 63) (hl.add (t := 106) (hl.add (t := 107) (hl.add (t := 108) (hl.nil) rfl) rfl) rfl) rfl) rfl) rfl) rfl) rfl) rfl) rfl) rfl) rfl) rfl; clear hl; have hl := hl2; clear hl2
                                refine then_normal ?_
                                refine ⟨i3 + 1, (by omega), ⟨by omega, take_next hI3 hon hnB⟩, hl.addE (t := 108) (hl.addE (t := 2) (hl.addE (t := 3) (hl.addE (t := 5) (hl.addE (t := 6) (hl.addE (t := 7) (hl.addE (t := 9) (hl.addE (t := 15) (hl.addE (t := 61) (hl.addE (t := 62) (hl.addE (t := 63) (hl.addE (t := 106) (hl.addE (t := 107) (hl.nil) rfl (by first | rfl | exact congrArg (Value.int .i64) (show (i3 : Int) + 1 = ((i3 + 1 : Nat) : Int) by omega) | (rw [hq4]) | (rw [hq5]) | (rw [hq6]))) rfl (by first | rfl | exact congrArg (Value.int .i64) (show (i3 : Int) + 1 = ((i3 + 1 : Nat) : Int) by omega) | (rw [hq4]) | (rw [hq5]) | (rw [hq6]))) rfl (by first | rfl | exact congrArg (Value.int .i64) (show (i3 : Int) + 1 = ((i3 + 1 : Nat) : Int) by omega) | (rw [hq4]) | (rw [hq5]) | (rw [hq6]))) rfl (by first | rfl | exact congrArg (Value.int .i64) (show (i3 : Int) + 1 = ((i3 + 1 : Nat) : Int) by omega) | (rw [hq4]) | (rw [hq5]) | (rw [hq6]))) rfl (by first | rfl | exact congrArg (Value.int .i64) (show (i3 : Int) + 1 = ((i3 + 1 : Nat) : Int) by omega) | (rw [hq4]) | (rw [hq5]) | (rw [hq6]))) rfl (by first | rfl | exact congrArg (Value.int .i64) (show (i3 : Int) + 1 = ((i3 + 1 : Nat) : Int) by omega) | (rw [hq4]) | (rw [hq5]) | (rw [hq6]))) rfl (by first | rfl | exact congrArg (Value.int .i64) (show (i3 : Int) + 1 = ((i3 + 1 : Nat) : Int) by omega) | (rw [hq4]) | (rw [hq5]) | (rw [hq6]))) rfl (by first | rfl | exact congrArg (Value.int .i64) (show (i3 : Int) + 1 = ((i3 + 1 : Nat) : Int) by omega) | (rw [hq4]) | (rw [hq5]) | (rw [hq6]))) rfl (by first | rfl | exact congrArg (Value.int .i64) (show (i3 : Int) + 1 = ((i3 + 1 : Nat) : Int) by omega) | (rw [hq4]) | (rw [hq5]) | (rw [hq6]))) rfl (by first | rfl | exact congrArg (Value.int .i64) (show (i3 : Int) + 1 = ((i3 + 1 : Nat) : Int) by omega) | (rw [hq4]) | (rw [hq5]) | (rw [hq6]))) rfl (by first | rfl | exact congrArg (Value.int .i64) (show (i3 : Int) + 1 = ((i3 + 1 : Nat) : Int) by omega) | (rw [hq4]) | (rw [hq5]) | (rw [hq6]))) rfl (by first | rfl | exact congrArg (Value.int .i64) (show (i3 : Int) + 1 = ((i3 + 1 : Nat) : Int) by omega) | (rw [hq4]) | (rw [hq5]) | (rw [hq6]))) rfl (by first | rfl | exact congrArg (Value.int .i64) (show (i3 : Int) + 1 = ((i3 + 1 : Nat) : Int) by omega) | (rw [hq4]) | (rw [hq5]) | (rw [hq6])), hh.keep (by repeat (first | exact keeps_nil | apply keeps_cons (by repeat (first | exact find_head | apply find_tail | apply find_skip)) (by first  | (rw [hq5]) | (rw [hq6]) | rfl) | exact keeps_self | exact keeps_left | apply keeps_app | apply keeps_mv | apply keeps_skip))⟩
                              · intro hc7
                                try simp only [decide_eq_true_eq, decide_eq_false_iff_not, Bool.not_eq_true', Bool.not_eq_false', Bool.not_eq_true, Bool.not_eq_false, Bool.and_eq_true, Bool.or_eq_true, Bool.and_eq_false_iff, Bool.or_eq_false_iff, Bool.not_not, ne_eq, Int.not_lt, Int.not_le, Decidable.not_not, beq_iff_eq, bne_iff_ne] at hc7
                                have hxy : x.l = y.l := lt_eq.2 ⟨by assumption, by assumption, by_t (by assumption), by assumption⟩
                                refine wp_skip ?_
                                refine blk_normal ?_
                                refine then_normal ?_
                                refine c_region ?_
                                first | refine wl (wl_val hl rfl trivial (r_add hl rfl rfl (by simp only [Fits]; omega)) ?_) | refine wl (wl_val hl rfl trivial (r_addW hl rfl rfl) ?_)
                                clear hl a; intro a hl
                                refine wl (wl_val hl rfl trivial (r_move hl rfl) ?_)
                                clear hl a; intro a hl
                                refine w_nil ?_
                                have hl2 := hl.add (t := 2) (hl.add (t := 3) (hl.add (t := 5) (hl.add (t := 6) (hl.add (t := 7) (hl.add (t := 9) (hl.add (t := 15) (hl.add (t := 18) (hl.add (t := 61) (hl.add (t := 62) (hl.add (t := 63) (hl.add (t := 106) (hl.add (t := 107) (hl.add (t := 108) (hl.add (t := 112) (hl.add (t := 113) (hl.add (t := 114) (hl.nil) rfl) rfl) rfl) rfl) rfl) rfl) rfl) rfl) rfl) rfl) rfl) rfl) rfl) rfl) rfl) rfl) rfl; clear hl; have hl := hl2; clear hl2
                                refine then_normal ?_
                                refine ⟨k + 1, (by omega), ⟨by omega, by rw [pick_snoc hq (map_at LV.l hx), hK, List.take_add_one, map_at LV.l hy, hxy]; rfl⟩, hl.addE (t := 114) (hl.addE (t := 18) (hl.addE (t := 2) (hl.addE (t := 3) (hl.addE (t := 5) (hl.addE (t := 6) (hl.addE (t := 7) (hl.addE (t := 9) (hl.addE (t := 15) (hl.addE (t := 61) (hl.addE (t := 62) (hl.addE (t := 63) (hl.addE (t := 106) (hl.addE (t := 107) (hl.addE (t := 108) (hl.addE (t := 112) (hl.addE (t := 113) (hl.nil) rfl (by first | rfl | exact congrArg (Value.int .i64) (show (k : Int) + 1 = ((k + 1 : Nat) : Int) by omega) | (rw [hq5]) | (rw [hq6]))) rfl (by first | rfl | exact congrArg (Value.int .i64) (show (k : Int) + 1 = ((k + 1 : Nat) : Int) by omega) | (rw [hq5]) | (rw [hq6]))) rfl (by first | rfl | exact congrArg (Value.int .i64) (show (k : Int) + 1 = ((k + 1 : Nat) : Int) by omega) | (rw [hq5]) | (rw [hq6]))) rfl (by first | rfl | exact congrArg (Value.int .i64) (show (k : Int) + 1 = ((k + 1 : Nat) : Int) by omega) | (rw [hq5]) | (rw [hq6]))) rfl (by first | rfl | exact congrArg (Value.int .i64) (show (k : Int) + 1 = ((k + 1 : Nat) : Int) by omega) | (rw [hq5]) | (rw [hq6]))) rfl (by first | rfl | exact congrArg (Value.int .i64) (show (k : Int) + 1 = ((k + 1 : Nat) : Int) by omega) | (rw [hq5]) | (rw [hq6]))) rfl (by first | rfl | exact congrArg (Value.int .i64) (show (k : Int) + 1 = ((k + 1 : Nat) : Int) by omega) | (rw [hq5]) | (rw [hq6]))) rfl (by first | rfl | exact congrArg (Value.int .i64) (show (k : Int) + 1 = ((k + 1 : Nat) : Int) by omega) | (rw [hq5]) | (rw [hq6]))) rfl (by first | rfl | exact congrArg (Value.int .i64) (show (k : Int) + 1 = ((k + 1 : Nat) : Int) by omega) | (rw [hq5]) | (rw [hq6]))) rfl (by first | rfl | exact congrArg (Value.int .i64) (show (k : Int) + 1 = ((k + 1 : Nat) : Int) by omega) | (rw [hq5]) | (rw [hq6]))) rfl (by first | rfl | exact congrArg (Value.int .i64) (show (k : Int) + 1 = ((k + 1 : Nat) : Int) by omega) | (rw [hq5]) | (rw [hq6]))) rfl (by first | rfl | exact congrArg (Value.int .i64) (show (k : Int) + 1 = ((k + 1 : Nat) : Int) by omega) | (rw [hq5]) | (rw [hq6]))) rfl (by first | rfl | exact congrArg (Value.int .i64) (show (k : Int) + 1 = ((k + 1 : Nat) : Int) by omega) | (rw [hq5]) | (rw [hq6]))) rfl (by first | rfl | exact congrArg (Value.int .i64) (show (k : Int) + 1 = ((k + 1 : Nat) : Int) by omega) | (rw [hq5]) | (rw [hq6]))) rfl (by first | rfl | exact congrArg (Value.int .i64) (show (k : Int) + 1 = ((k + 1 : Nat) : Int) by omega) | (rw [hq5]) | (rw [hq6]))) rfl (by first | rfl | exact congrArg (Value.int .i64) (show (k : Int) + 1 = ((k + 1 : Nat) : Int) by omega) | (rw [hq5]) | (rw [hq6]))) rfl (by first | rfl | exact congrArg (Value.int .i64) (show (k : Int) + 1 = ((k + 1 : Nat) : Int) by omega) | (rw [hq5]) | (rw [hq6])), hh.keep (by repeat (first | exact keeps_nil | apply keeps_cons (by repeat (first | exact find_head | apply find_tail | apply find_skip)) (by first  | (rw [hq5]) | (rw [hq6]) | rfl) | exact keeps_self | exact keeps_left | apply keeps_app | apply keeps_mv | apply keeps_skip))⟩
                      ·
                        try clear hM
                        refine id (w_alloc hl hh rfl trivial zero44 rfl ?_)
                        clear hl hh a w; intro k22 a w hl hh
                        have hM : Mem [(k15, C [.string r'.p, .slice r'.hp r'.a.length r'.hc, .slice (some ⟨b5, 0, none⟩) r'.ls.length r'.bc] 35), (b5, C (fl LV.c4 r'.ls ++ j5) 44), (k3, C [.string t.p, .slice t.hp t.a.length t.hc, .slice (some ⟨b6, 0, none⟩) t.ls.length t.bc] 35), (b6, C (fl LV.c4 t.ls ++ j6) 44)] w := (fun b o m => by simp only [List.mem_cons, List.not_mem_nil, or_false] at m; rcases m with m | m | m | m <;> cases m; exact hh.mem _ _ (Find.mem (by repeat (first | exact find_head | apply find_tail | apply find_skip))); exact RV.mb (memK hh (by repeat (first | exact keeps_nil | apply keeps_cons (by repeat (first | exact find_head | apply find_tail | apply find_skip)) (by first  | rfl) | exact keeps_self | exact keeps_left | apply keeps_app | apply keeps_mv | apply keeps_skip))) _ _ (by rw [hE5]; exact List.mem_singleton.2 rfl); exact hh.mem _ _ (Find.mem (by repeat (first | exact find_head | apply find_tail | apply find_skip))); exact heap_keep hh hm6)
                        refine d_step (fun _ => hM) ?_
                        refine d_one (i := 10) (by kernel_rfl) rfl ?_
                        try clear hM
                        refine id (w_alloc hl hh rfl trivial zero44 rfl ?_)
                        clear hl hh a w; intro k21 a w hl hh
                        have hM : Mem [(k15, C [.string r'.p, .slice r'.hp r'.a.length r'.hc, .slice (some ⟨b5, 0, none⟩) r'.ls.length r'.bc] 35), (b5, C (fl LV.c4 r'.ls ++ j5) 44), (k3, C [.string t.p, .slice t.hp t.a.length t.hc, .slice (some ⟨b6, 0, none⟩) t.ls.length t.bc] 35), (b6, C (fl LV.c4 t.ls ++ j6) 44)] w := (fun b o m => by simp only [List.mem_cons, List.not_mem_nil, or_false] at m; rcases m with m | m | m | m <;> cases m; exact hh.mem _ _ (Find.mem (by repeat (first | exact find_head | apply find_tail | apply find_skip))); exact RV.mb (memK hh (by repeat (first | exact keeps_nil | apply keeps_cons (by repeat (first | exact find_head | apply find_tail | apply find_skip)) (by first  | rfl) | exact keeps_self | exact keeps_left | apply keeps_app | apply keeps_mv | apply keeps_skip))) _ _ (by rw [hE5]; exact List.mem_singleton.2 rfl); exact hh.mem _ _ (Find.mem (by repeat (first | exact find_head | apply find_tail | apply find_skip))); exact heap_keep hh hm6)
                        refine d_step (fun _ => hM) ?_
                        refine d_one (i := 12) (by kernel_rfl) rfl ?_
                        try clear hM
                        refine id (w_storeA hl hh trivial agg44 rfl rfl (by repeat (first | exact find_head | apply find_tail | apply find_skip)) (by first | rfl | (simp; done) | exact hd5 | exact hd8) (by first | (simp; done) | (simp; omega)) (by first | rfl | (simp; done) | rfl) (by first | (simp only [setL, List.getElem?_cons_zero, List.getElem?_cons_succ, Value.cells, List.take_zero, List.take_succ_cons, List.take_nil, List.drop_zero, List.drop_succ_cons, List.drop_nil, List.length_cons, List.length_nil, List.cons_append, List.nil_append, List.append_nil, Nat.zero_add, Nat.add_zero, Nat.reduceAdd, Nat.reduceBEq, Nat.reduceEqDiff, Nat.ble, BEq.rfl, Bool.and_true, Bool.and_self, cond_true, beq_self_eq_true]; rfl)) ?_)
                        clear hh w; intro w hh
                        have hM : Mem [(k15, C [.string r'.p, .slice r'.hp r'.a.length r'.hc, .slice (some ⟨b5, 0, none⟩) r'.ls.length r'.bc] 35), (b5, C (fl LV.c4 r'.ls ++ j5) 44), (k3, C [.string t.p, .slice t.hp t.a.length t.hc, .slice (some ⟨b6, 0, none⟩) t.ls.length t.bc] 35), (b6, C (fl LV.c4 t.ls ++ j6) 44)] w := (fun b o m => by simp only [List.mem_cons, List.not_mem_nil, or_false] at m; rcases m with m | m | m | m <;> cases m; exact hh.mem _ _ (Find.mem (by repeat (first | exact find_head | apply find_tail | apply find_skip))); exact RV.mb (memK hh (by repeat (first | exact keeps_nil | apply keeps_cons (by repeat (first | exact find_head | apply find_tail | apply find_skip)) (by first  | rfl) | exact keeps_self | exact keeps_left | apply keeps_app | apply keeps_mv | apply keeps_skip))) _ _ (by rw [hE5]; exact List.mem_singleton.2 rfl); exact hh.mem _ _ (Find.mem (by repeat (first | exact find_head | apply find_tail | apply find_skip))); exact heap_keep hh hm6)
                        refine d_step (fun _ => hM) ?_
                        refine d_one (i := 13) (by kernel_rfl) rfl ?_
                        try clear hM
                        refine id (w_storeA hl hh trivial agg44 rfl rfl (by repeat (first | exact find_head | apply find_tail | apply find_skip)) (by first | rfl | (simp; done) | exact hd5 | exact hd8) (by first | (simp; done) | (simp; omega)) (by first | rfl | (simp; done) | rfl) (by first | (simp only [setL, List.getElem?_cons_zero, List.getElem?_cons_succ, Value.cells, List.take_zero, List.take_succ_cons, List.take_nil, List.drop_zero, List.drop_succ_cons, List.drop_nil, List.length_cons, List.length_nil, List.cons_append, List.nil_append, List.append_nil, Nat.zero_add, Nat.add_zero, Nat.reduceAdd, Nat.reduceBEq, Nat.reduceEqDiff, Nat.ble, BEq.rfl, Bool.and_true, Bool.and_self, cond_true, beq_self_eq_true]; rfl)) ?_)
                        clear hh w; intro w hh
                        refine d_step (fun h => absurd h (by decide)) ?_
                        refine d_done (by kernel_rfl) ?_
                        try clear hM
                        have hl2 := hl.add (t := 2) (hl.add (t := 3) (hl.add (t := 5) (hl.add (t := 6) (hl.add (t := 7) (hl.add (t := 9) (hl.add (t := 15) (hl.add (t := 18) (hl.add (t := 21) (hl.add (t := 22) (hl.add (t := 61) (hl.add (t := 62) (hl.add (t := 63) (hl.add (t := 106) (hl.add (t := 107) (hl.add (t := 108) (hl.add (t := 112) (hl.add (t := 113) (hl.add (t := 114) (hl.nil) rfl) rfl) rfl) rfl) rfl) rfl) rfl) rfl) rfl) rfl) rfl) rfl) rfl) rfl) rfl) rfl) rfl) rfl) rfl; clear hl; have hl := hl2; clear hl2
                        refine then_normal ?_
                        refine c_seq ?_
                        refine c_region ?_
                        refine wl (wl_val hl rfl trivial (r_field hl rfl fld44_0) ?_)
                        clear hl a; intro a hl
                        first | refine wl (w_load hl hh rfl trivial one41 rfl (by repeat (first | exact find_head | apply find_tail | apply find_skip)) (by first | rfl) ?_) | refine wl (wl_val hl rfl trivial (r_load hl rfl one41 (hh.mem _ _ (by repeat (first | exact hb1m | exact List.mem_append_left _ hb1m | apply List.mem_cons_of_mem | apply List.mem_append_right))) (List.getElem?_toArray.trans hd1)) ?_) | refine wl (wl_val hl rfl trivial (r_load hl rfl one41 (hh.mem _ _ (by repeat (first | exact hb2m | exact List.mem_append_left _ hb2m | apply List.mem_cons_of_mem | apply List.mem_append_right))) (List.getElem?_toArray.trans hd2)) ?_) | refine wl (wl_val hl rfl trivial (r_load hl rfl one41 (hh.mem _ _ (by repeat (first | exact hb3m | exact List.mem_append_left _ hb3m | apply List.mem_cons_of_mem | apply List.mem_append_right))) (List.getElem?_toArray.trans hd3)) ?_) | refine wl (wl_val hl rfl trivial (r_load hl rfl one41 (hh.mem _ _ (by repeat (first | exact hmemS | exact List.mem_append_left _ hmemS | apply List.mem_cons_of_mem | apply List.mem_append_right))) (List.getElem?_toArray.trans hd4)) ?_) | refine wl (wl_val hl rfl trivial (r_load hl rfl one41 (hh.mem _ _ (by repeat (first | exact hb4m | exact List.mem_append_left _ hb4m | apply List.mem_cons_of_mem | apply List.mem_append_right))) (List.getElem?_toArray.trans hd6)) ?_) | refine wl (wl_val hl rfl trivial (r_load hl rfl one41 (hh.mem _ _ (by repeat (first | exact hmemO | exact List.mem_append_left _ hmemO | apply List.mem_cons_of_mem | apply List.mem_append_right))) (List.getElem?_toArray.trans hd7)) ?_)
                        clear hl a; intro a hl
                        refine wl (wl_val hl rfl trivial (r_field hl rfl fld44_0) ?_)
                        clear hl a; intro a hl
                        first | refine wl (w_load hl hh rfl trivial one41 rfl (by repeat (first | exact find_head | apply find_tail | apply find_skip)) (by first | rfl) ?_) | refine wl (wl_val hl rfl trivial (r_load hl rfl one41 (hh.mem _ _ (by repeat (first | exact hb1m | exact List.mem_append_left _ hb1m | apply List.mem_cons_of_mem | apply List.mem_append_right))) (List.getElem?_toArray.trans hd1)) ?_) | refine wl (wl_val hl rfl trivial (r_load hl rfl one41 (hh.mem _ _ (by repeat (first | exact hb2m | exact List.mem_append_left _ hb2m | apply List.mem_cons_of_mem | apply List.mem_append_right))) (List.getElem?_toArray.trans hd2)) ?_) | refine wl (wl_val hl rfl trivial (r_load hl rfl one41 (hh.mem _ _ (by repeat (first | exact hb3m | exact List.mem_append_left _ hb3m | apply List.mem_cons_of_mem | apply List.mem_append_right))) (List.getElem?_toArray.trans hd3)) ?_) | refine wl (wl_val hl rfl trivial (r_load hl rfl one41 (hh.mem _ _ (by repeat (first | exact hmemS | exact List.mem_append_left _ hmemS | apply List.mem_cons_of_mem | apply List.mem_append_right))) (List.getElem?_toArray.trans hd4)) ?_) | refine wl (wl_val hl rfl trivial (r_load hl rfl one41 (hh.mem _ _ (by repeat (first | exact hb4m | exact List.mem_append_left _ hb4m | apply List.mem_cons_of_mem | apply List.mem_append_right))) (List.getElem?_toArray.trans hd6)) ?_) | refine wl (wl_val hl rfl trivial (r_load hl rfl one41 (hh.mem _ _ (by repeat (first | exact hmemO | exact List.mem_append_left _ hmemO | apply List.mem_cons_of_mem | apply List.mem_append_right))) (List.getElem?_toArray.trans hd7)) ?_)
                        clear hl a; intro a hl
                        refine wl (wl_val hl rfl trivial (r_neq hl rfl rfl) ?_)
                        clear hl a; intro a hl
                        refine wl (wl_val hl rfl trivial (r_move hl rfl) ?_)
                        clear hl a; intro a hl
                        refine sl_split (t := 134) hl rfl ?_ ?_
                        · intro hg6; clear hl; intro hl
                          try simp only [decide_eq_true_eq, decide_eq_false_iff_not, Bool.not_eq_true', Bool.not_eq_false', Bool.not_eq_true, Bool.not_eq_false, Bool.and_eq_true, Bool.or_eq_true, Bool.and_eq_false_iff, Bool.or_eq_false_iff, Bool.not_not, ne_eq, Int.not_lt, Int.not_le, Decidable.not_not, beq_iff_eq, bne_iff_ne] at hg6
                          refine wl (wl_skip hl rfl ⟨_, _, rfl, rfl, rfl⟩ ?_)
                          clear hl a; intro a hl
                          refine wl (wl_skip hl rfl ⟨_, _, rfl, rfl, rfl⟩ ?_)
                          clear hl a; intro a hl
                          refine wl (wl_skip hl rfl ⟨_, _, rfl, rfl, rfl⟩ ?_)
                          clear hl a; intro a hl
                          refine wl (wl_skip hl rfl ⟨_, _, rfl, rfl, rfl⟩ ?_)
                          clear hl a; intro a hl
                          refine wl (wl_skip hl rfl ⟨_, _, rfl, rfl, rfl⟩ ?_)
                          clear hl a; intro a hl
                          refine wl (wl_val hl rfl trivial (r_pickT hl rfl rfl) ?_)
                          clear hl a; intro a hl
                          refine wl (wl_val hl rfl trivial (r_move hl rfl) ?_)
                          clear hl a; intro a hl
                          refine wl (wl_skip hl rfl ⟨_, _, rfl, rfl, rfl⟩ ?_)
                          clear hl a; intro a hl
                          refine wl (wl_skip hl rfl ⟨_, _, rfl, rfl, rfl⟩ ?_)
                          clear hl a; intro a hl
                          refine wl (wl_skip hl rfl ⟨_, _, rfl, rfl, rfl⟩ ?_)
                          clear hl a; intro a hl
                          refine wl (wl_skip hl rfl ⟨_, _, rfl, rfl, rfl⟩ ?_)
                          clear hl a; intro a hl
                          refine wl (wl_skip hl rfl ⟨_, _, rfl, rfl, rfl⟩ ?_)
                          clear hl a; intro a hl
                          refine wl (wl_skip hl rfl ⟨_, _, rfl, rfl, rfl⟩ ?_)
                          clear hl a; intro a hl
                          refine wl (wl_skip hl rfl ⟨_, _, rfl, rfl, rfl⟩ ?_)
                          clear hl a; intro a hl
                          refine wl (wl_val hl rfl trivial (r_pickT hl rfl rfl) ?_)
                          clear hl a; intro a hl
                          refine wl (wl_val hl rfl trivial (r_move hl rfl) ?_)
                          clear hl a; intro a hl
                          refine wl (wl_skip hl rfl ⟨_, _, rfl, rfl, rfl⟩ ?_)
                          clear hl a; intro a hl
                          refine wl (wl_skip hl rfl ⟨_, _, rfl, rfl, rfl⟩ ?_)
                          clear hl a; intro a hl
                          refine wl (wl_skip hl rfl ⟨_, _, rfl, rfl, rfl⟩ ?_)
                          clear hl a; intro a hl
                          refine wl (wl_skip hl rfl ⟨_, _, rfl, rfl, rfl⟩ ?_)
                          clear hl a; intro a hl
                          refine wl (wl_skip hl rfl ⟨_, _, rfl, rfl, rfl⟩ ?_)
                          clear hl a; intro a hl
                          refine wl (wl_skip hl rfl ⟨_, _, rfl, rfl, rfl⟩ ?_)
                          clear hl a; intro a hl
                          refine wl (wl_skip hl rfl ⟨_, _, rfl, rfl, rfl⟩ ?_)
                          clear hl a; intro a hl
                          refine wl (wl_skip hl rfl ⟨_, _, rfl, rfl, rfl⟩ ?_)
                          clear hl a; intro a hl
                          refine wl (wl_val hl rfl trivial (r_pickT hl rfl rfl) ?_)
                          clear hl a; intro a hl
                          refine w_nil ?_
                          have hl2 := hl.add (t := 2) (hl.add (t := 3) (hl.add (t := 5) (hl.add (t := 6) (hl.add (t := 7) (hl.add (t := 9) (hl.add (t := 15) (hl.add (t := 18) (hl.add (t := 61) (hl.add (t := 62) (hl.add (t := 63) (hl.add (t := 106) (hl.add (t := 107) (hl.add (t := 108) (hl.add (t := 112) (hl.add (t := 113) (hl.add (t := 114) (hl.add (t := 159) (hl.nil) rfl) rfl) rfl) rfl) rfl) rfl) rfl) rfl) rfl) rfl) rfl) rfl) rfl) rfl) rfl) rfl) rfl) rfl; clear hl; have hl := hl2; clear hl2
                          refine then_normal ?_
                          refine c_condT hl rfl ?_
                          have hxy : ¬ x.l = y.l := by
                            first
                            | exact fun h9 => absurd (lt_eq.1 h9).1 (by assumption)
                            | exact fun h9 => absurd (lt_eq.1 h9).2.1 (by assumption)
                            | exact fun h9 => by_f (by assumption) (lt_eq.1 h9).2.2.1
                            | exact fun h9 => absurd (lt_eq.1 h9).2.2.2 (by assumption)
                          have hnB : ¬ MtB r.ru t.ru s.l o.l := mtb_no (L := r'.ls.map LV.l) hrn.b (fun i hi => by have := perm_rng hop9 hi; rw [List.length_map, hrn.n]; omega) hq (map_at LV.l hx) (map_at LV.l hy) hxy
                          refine c_seq ?_
                          refine c_region ?_
                          refine wl (wl_val hl rfl trivial (r_assign hl rfl) ?_)
                          clear hl a; intro a hl
                          refine w_nil ?_
                          have hl2 := hl.add (t := 2) (hl.add (t := 3) (hl.add (t := 5) (hl.add (t := 6) (hl.add (t := 7) (hl.add (t := 9) (hl.add (t := 15) (hl.add (t := 18) (hl.add (t := 61) (hl.add (t := 62) (hl.add (t := 63) (hl.add (t := 106) (hl.add (t := 107) (hl.add (t := 108) (hl.nil) rfl) rfl) rfl) rfl) rfl) rfl) rfl) rfl) rfl) rfl) rfl) rfl) rfl) rfl; clear hl; have hl := hl2; clear hl2
                          refine then_normal ?_
                          refine wp_exit ?_
                          refine blk_exit_ne rfl ?_
                          refine then_exit ?_
                          refine then_exit ?_
                          refine blk_exit ?_
                          refine then_normal ?_
                          refine c_seq ?_
                          refine c_region ?_
                          refine wl (wl_val hl rfl trivial (r_move hl rfl) ?_)
                          clear hl a; intro a hl
                          refine w_nil ?_
                          have hl2 := hl.add (t := 2) (hl.add (t := 3) (hl.add (t := 5) (hl.add (t := 6) (hl.add (t := 7) (hl.add (t := 9) (hl.add (t := 15) (hl.add (t := 61) (hl.add (t := 62) (hl.add (t := 63) (hl.add (t := 106) (hl.add (t := 107) (hl.add (t := 108) (hl.add (t := 161) (hl.nil) rfl) rfl) rfl) rfl) rfl) rfl) rfl) rfl) rfl) rfl) rfl) rfl) rfl) rfl; clear hl; have hl := hl2; clear hl2
                          refine then_normal ?_
                          refine c_condF hl rfl ?_
                          have hnB : ¬ MtB r.ru t.ru s.l o.l := by
                            first
                            | assumption
                            | (exfalso; simp at hc8; done)
                            | contradiction
                          refine wp_skip ?_
                          refine blk_normal ?_
                          refine then_normal ?_
                          refine c_region ?_
                          first | refine wl (wl_val hl rfl trivial (r_add hl rfl rfl (by simp only [Fits]; omega)) ?_) | refine wl (wl_val hl rfl trivial (r_addW hl rfl rfl) ?_)
                          clear hl a; intro a hl
                          refine wl (wl_val hl rfl trivial (r_move hl rfl) ?_)
                          clear hl a; intro a hl
                          refine w_nil ?_
                          have hl2 := hl.add (t := 2) (hl.add (t := 3) (hl.add (t := 5) (hl.add (t := 6) (hl.add (t := 7) (hl.add (t := 9) (hl.add (t := 15) (hl.add (t := 61) (hl.add (t := 62) (hl.add (t := 63) (hl.add (t := 106) (hl.add (t := 107) (hl.add (t := 108) (hl.nil) rfl) rfl) rfl) rfl) rfl) rfl) rfl) rfl) rfl) rfl) rfl) rfl) rfl; clear hl; have hl := hl2; clear hl2
                          refine then_normal ?_
                          refine ⟨i3 + 1, (by omega), ⟨by omega, take_next hI3 hon hnB⟩, hl.addE (t := 108) (hl.addE (t := 2) (hl.addE (t := 3) (hl.addE (t := 5) (hl.addE (t := 6) (hl.addE (t := 7) (hl.addE (t := 9) (hl.addE (t := 15) (hl.addE (t := 61) (hl.addE (t := 62) (hl.addE (t := 63) (hl.addE (t := 106) (hl.addE (t := 107) (hl.nil) rfl (by first | rfl | exact congrArg (Value.int .i64) (show (i3 : Int) + 1 = ((i3 + 1 : Nat) : Int) by omega) | (rw [hq4]) | (rw [hq5]) | (rw [hq6]))) rfl (by first | rfl | exact congrArg (Value.int .i64) (show (i3 : Int) + 1 = ((i3 + 1 : Nat) : Int) by omega) | (rw [hq4]) | (rw [hq5]) | (rw [hq6]))) rfl (by first | rfl | exact congrArg (Value.int .i64) (show (i3 : Int) + 1 = ((i3 + 1 : Nat) : Int) by omega) | (rw [hq4]) | (rw [hq5]) | (rw [hq6]))) rfl (by first | rfl | exact congrArg (Value.int .i64) (show (i3 : Int) + 1 = ((i3 + 1 : Nat) : Int) by omega) | (rw [hq4]) | (rw [hq5]) | (rw [hq6]))) rfl (by first | rfl | exact congrArg (Value.int .i64) (show (i3 : Int) + 1 = ((i3 + 1 : Nat) : Int) by omega) | (rw [hq4]) | (rw [hq5]) | (rw [hq6]))) rfl (by first | rfl | exact congrArg (Value.int .i64) (show (i3 : Int) + 1 = ((i3 + 1 : Nat) : Int) by omega) | (rw [hq4]) | (rw [hq5]) | (rw [hq6]))) rfl (by first | rfl | exact congrArg (Value.int .i64) (show (i3 : Int) + 1 = ((i3 + 1 : Nat) : Int) by omega) | (rw [hq4]) | (rw [hq5]) | (rw [hq6]))) rfl (by first | rfl | exact congrArg (Value.int .i64) (show (i3 : Int) + 1 = ((i3 + 1 : Nat) : Int) by omega) | (rw [hq4]) | (rw [hq5]) | (rw [hq6]))) rfl (by first | rfl | exact congrArg (Value.int .i64) (show (i3 : Int) + 1 = ((i3 + 1 : Nat) : Int) by omega) | (rw [hq4]) | (rw [hq5]) | (rw [hq6]))) rfl (by first | rfl | exact congrArg (Value.int .i64) (show (i3 : Int) + 1 = ((i3 + 1 : Nat) : Int) by omega) | (rw [hq4]) | (rw [hq5]) | (rw [hq6]))) rfl (by first | rfl | exact congrArg (Value.int .i64) (show (i3 : Int) + 1 = ((i3 + 1 : Nat) : Int) by omega) | (rw [hq4]) | (rw [hq5]) | (rw [hq6]))) rfl (by first | rfl | exact congrArg (Value.int .i64) (show (i3 : Int) + 1 = ((i3 + 1 : Nat) : Int) by omega) | (rw [hq4]) | (rw [hq5]) | (rw [hq6]))) rfl (by first | rfl | exact congrArg (Value.int .i64) (show (i3 : Int) + 1 = ((i3 + 1 : Nat) : Int) by omega) | (rw [hq4]) | (rw [hq5]) | (rw [hq6])), hh.keep (by repeat (first | exact keeps_nil | apply keeps_cons (by repeat (first | exact find_head | apply find_tail | apply find_skip)) (by first  | (rw [hq5]) | (rw [hq6]) | rfl) | exact keeps_self | exact keeps_left | apply keeps_app | apply keeps_mv | apply keeps_skip))⟩
                        · intro hg6; clear hl; intro hl
                          try simp only [decide_eq_true_eq, decide_eq_false_iff_not, Bool.not_eq_true', Bool.not_eq_false', Bool.not_eq_true, Bool.not_eq_false, Bool.and_eq_true, Bool.or_eq_true, Bool.and_eq_false_iff, Bool.or_eq_false_iff, Bool.not_not, ne_eq, Int.not_lt, Int.not_le, Decidable.not_not, beq_iff_eq, bne_iff_ne] at hg6
                          refine wl (wl_val hl rfl ⟨_, _, rfl, rfl, rfl⟩ (r_field hl rfl fld44_1) ?_)
                          clear hl a; intro a hl
                          first | refine wl (w_load hl hh rfl ⟨_, _, rfl, rfl, rfl⟩ one42 rfl (by repeat (first | exact find_head | apply find_tail | apply find_skip)) (by first | rfl) ?_) | refine wl (wl_val hl rfl ⟨_, _, rfl, rfl, rfl⟩ (r_load hl rfl one42 (hh.mem _ _ (by repeat (first | exact hb1m | exact List.mem_append_left _ hb1m | apply List.mem_cons_of_mem | apply List.mem_append_right))) (List.getElem?_toArray.trans hd1)) ?_) | refine wl (wl_val hl rfl ⟨_, _, rfl, rfl, rfl⟩ (r_load hl rfl one42 (hh.mem _ _ (by repeat (first | exact hb2m | exact List.mem_append_left _ hb2m | apply List.mem_cons_of_mem | apply List.mem_append_right))) (List.getElem?_toArray.trans hd2)) ?_) | refine wl (wl_val hl rfl ⟨_, _, rfl, rfl, rfl⟩ (r_load hl rfl one42 (hh.mem _ _ (by repeat (first | exact hb3m | exact List.mem_append_left _ hb3m | apply List.mem_cons_of_mem | apply List.mem_append_right))) (List.getElem?_toArray.trans hd3)) ?_) | refine wl (wl_val hl rfl ⟨_, _, rfl, rfl, rfl⟩ (r_load hl rfl one42 (hh.mem _ _ (by repeat (first | exact hmemS | exact List.mem_append_left _ hmemS | apply List.mem_cons_of_mem | apply List.mem_append_right))) (List.getElem?_toArray.trans hd4)) ?_) | refine wl (wl_val hl rfl ⟨_, _, rfl, rfl, rfl⟩ (r_load hl rfl one42 (hh.mem _ _ (by repeat (first | exact hb4m | exact List.mem_append_left _ hb4m | apply List.mem_cons_of_mem | apply List.mem_append_right))) (List.getElem?_toArray.trans hd6)) ?_) | refine wl (wl_val hl rfl ⟨_, _, rfl, rfl, rfl⟩ (r_load hl rfl one42 (hh.mem _ _ (by repeat (first | exact hmemO | exact List.mem_append_left _ hmemO | apply List.mem_cons_of_mem | apply List.mem_append_right))) (List.getElem?_toArray.trans hd7)) ?_)
                          clear hl a; intro a hl
                          refine wl (wl_val hl rfl ⟨_, _, rfl, rfl, rfl⟩ (r_field hl rfl fld44_1) ?_)
                          clear hl a; intro a hl
                          first | refine wl (w_load hl hh rfl ⟨_, _, rfl, rfl, rfl⟩ one42 rfl (by repeat (first | exact find_head | apply find_tail | apply find_skip)) (by first | rfl) ?_) | refine wl (wl_val hl rfl ⟨_, _, rfl, rfl, rfl⟩ (r_load hl rfl one42 (hh.mem _ _ (by repeat (first | exact hb1m | exact List.mem_append_left _ hb1m | apply List.mem_cons_of_mem | apply List.mem_append_right))) (List.getElem?_toArray.trans hd1)) ?_) | refine wl (wl_val hl rfl ⟨_, _, rfl, rfl, rfl⟩ (r_load hl rfl one42 (hh.mem _ _ (by repeat (first | exact hb2m | exact List.mem_append_left _ hb2m | apply List.mem_cons_of_mem | apply List.mem_append_right))) (List.getElem?_toArray.trans hd2)) ?_) | refine wl (wl_val hl rfl ⟨_, _, rfl, rfl, rfl⟩ (r_load hl rfl one42 (hh.mem _ _ (by repeat (first | exact hb3m | exact List.mem_append_left _ hb3m | apply List.mem_cons_of_mem | apply List.mem_append_right))) (List.getElem?_toArray.trans hd3)) ?_) | refine wl (wl_val hl rfl ⟨_, _, rfl, rfl, rfl⟩ (r_load hl rfl one42 (hh.mem _ _ (by repeat (first | exact hmemS | exact List.mem_append_left _ hmemS | apply List.mem_cons_of_mem | apply List.mem_append_right))) (List.getElem?_toArray.trans hd4)) ?_) | refine wl (wl_val hl rfl ⟨_, _, rfl, rfl, rfl⟩ (r_load hl rfl one42 (hh.mem _ _ (by repeat (first | exact hb4m | exact List.mem_append_left _ hb4m | apply List.mem_cons_of_mem | apply List.mem_append_right))) (List.getElem?_toArray.trans hd6)) ?_) | refine wl (wl_val hl rfl ⟨_, _, rfl, rfl, rfl⟩ (r_load hl rfl one42 (hh.mem _ _ (by repeat (first | exact hmemO | exact List.mem_append_left _ hmemO | apply List.mem_cons_of_mem | apply List.mem_append_right))) (List.getElem?_toArray.trans hd7)) ?_)
                          clear hl a; intro a hl
                          refine wl (wl_val hl rfl ⟨_, _, rfl, rfl, rfl⟩ (r_neq hl rfl rfl) ?_)
                          clear hl a; intro a hl
                          refine wl (wl_val hl rfl trivial (r_pickF hl rfl rfl) ?_)
                          clear hl a; intro a hl
                          refine wl (wl_val hl rfl trivial (r_move hl rfl) ?_)
                          clear hl a; intro a hl
                          refine sl_split (t := 141) hl rfl ?_ ?_
                          · intro hg7; clear hl; intro hl
                            try simp only [decide_eq_true_eq, decide_eq_false_iff_not, Bool.not_eq_true', Bool.not_eq_false', Bool.not_eq_true, Bool.not_eq_false, Bool.and_eq_true, Bool.or_eq_true, Bool.and_eq_false_iff, Bool.or_eq_false_iff, Bool.not_not, ne_eq, Int.not_lt, Int.not_le, Decidable.not_not, beq_iff_eq, bne_iff_ne] at hg7
                            refine wl (wl_skip hl rfl ⟨_, _, rfl, rfl, rfl⟩ ?_)
                            clear hl a; intro a hl
                            refine wl (wl_skip hl rfl ⟨_, _, rfl, rfl, rfl⟩ ?_)
                            clear hl a; intro a hl
                            refine wl (wl_skip hl rfl ⟨_, _, rfl, rfl, rfl⟩ ?_)
                            clear hl a; intro a hl
                            refine wl (wl_skip hl rfl ⟨_, _, rfl, rfl, rfl⟩ ?_)
                            clear hl a; intro a hl
                            refine wl (wl_skip hl rfl ⟨_, _, rfl, rfl, rfl⟩ ?_)
                            clear hl a; intro a hl
                            refine wl (wl_skip hl rfl ⟨_, _, rfl, rfl, rfl⟩ ?_)
                            clear hl a; intro a hl
                            refine wl (wl_skip hl rfl ⟨_, _, rfl, rfl, rfl⟩ ?_)
                            clear hl a; intro a hl
                            refine wl (wl_val hl rfl trivial (r_pickT hl rfl rfl) ?_)
                            clear hl a; intro a hl
                            refine wl (wl_val hl rfl trivial (r_move hl rfl) ?_)
                            clear hl a; intro a hl
                            refine wl (wl_skip hl rfl ⟨_, _, rfl, rfl, rfl⟩ ?_)
                            clear hl a; intro a hl
                            refine wl (wl_skip hl rfl ⟨_, _, rfl, rfl, rfl⟩ ?_)
                            clear hl a; intro a hl
                            refine wl (wl_skip hl rfl ⟨_, _, rfl, rfl, rfl⟩ ?_)
                            clear hl a; intro a hl
                            refine wl (wl_skip hl rfl ⟨_, _, rfl, rfl, rfl⟩ ?_)
                            clear hl a; intro a hl
                            refine wl (wl_skip hl rfl ⟨_, _, rfl, rfl, rfl⟩ ?_)
                            clear hl a; intro a hl
                            refine wl (wl_skip hl rfl ⟨_, _, rfl, rfl, rfl⟩ ?_)
                            clear hl a; intro a hl
                            refine wl (wl_skip hl rfl ⟨_, _, rfl, rfl, rfl⟩ ?_)
                            clear hl a; intro a hl
                            refine wl (wl_skip hl rfl ⟨_, _, rfl, rfl, rfl⟩ ?_)
                            clear hl a; intro a hl
                            refine wl (wl_val hl rfl trivial (r_pickT hl rfl rfl) ?_)
                            clear hl a; intro a hl
                            refine w_nil ?_
                            have hl2 := hl.add (t := 2) (hl.add (t := 3) (hl.add (t := 5) (hl.add (t := 6) (hl.add (t := 7) (hl.add (t := 9) (hl.add (t := 15) (hl.add (t := 18) (hl.add (t := 61) (hl.add (t := 62) (hl.add (t := 63) (hl.add (t := 106) (hl.add (t := 107) (hl.add (t := 108) (hl.add (t := 112) (hl.add (t := 113) (hl.add (t := 114) (hl.add (t := 159) (hl.nil) rfl) rfl) rfl) rfl) rfl) rfl) rfl) rfl) rfl) rfl) rfl) rfl) rfl) rfl) rfl) rfl) rfl) rfl; clear hl; have hl := hl2; clear hl2
                            refine then_normal ?_
                            refine c_condT hl rfl ?_
                            have hxy : ¬ x.l = y.l := by
                              first
                              | exact fun h9 => absurd (lt_eq.1 h9).1 (by assumption)
                              | exact fun h9 => absurd (lt_eq.1 h9).2.1 (by assumption)
                              | exact fun h9 => by_f (by assumption) (lt_eq.1 h9).2.2.1
                              | exact fun h9 => absurd (lt_eq.1 h9).2.2.2 (by assumption)
                            have hnB : ¬ MtB r.ru t.ru s.l o.l := mtb_no (L := r'.ls.map LV.l) hrn.b (fun i hi => by have := perm_rng hop9 hi; rw [List.length_map, hrn.n]; omega) hq (map_at LV.l hx) (map_at LV.l hy) hxy
                            refine c_seq ?_
                            refine c_region ?_
                            refine wl (wl_val hl rfl trivial (r_assign hl rfl) ?_)
                            clear hl a; intro a hl
                            refine w_nil ?_
                            have hl2 := hl.add (t := 2) (hl.add (t := 3) (hl.add (t := 5) (hl.add (t := 6) (hl.add (t := 7) (hl.add (t := 9) (hl.add (t := 15) (hl.add (t := 18) (hl.add (t := 61) (hl.add (t := 62) (hl.add (t := 63) (hl.add (t := 106) (hl.add (t := 107) (hl.add (t := 108) (hl.nil) rfl) rfl) rfl) rfl) rfl) rfl) rfl) rfl) rfl) rfl) rfl) rfl) rfl) rfl; clear hl; have hl := hl2; clear hl2
                            refine then_normal ?_
                            refine wp_exit ?_
                            refine blk_exit_ne rfl ?_
                            refine then_exit ?_
                            refine then_exit ?_
                            refine blk_exit ?_
                            refine then_normal ?_
                            refine c_seq ?_
                            refine c_region ?_
                            refine wl (wl_val hl rfl trivial (r_move hl rfl) ?_)
                            clear hl a; intro a hl
                            refine w_nil ?_
                            have hl2 := hl.add (t := 2) (hl.add (t := 3) (hl.add (t := 5) (hl.add (t := 6) (hl.add (t := 7) (hl.add (t := 9) (hl.add (t := 15) (hl.add (t := 61) (hl.add (t := 62) (hl.add (t := 63) (hl.add (t := 106) (hl.add (t := 107) (hl.add (t := 108) (hl.add (t := 161) (hl.nil) rfl) rfl) rfl) rfl) rfl) rfl) rfl) rfl) rfl) rfl) rfl) rfl) rfl) rfl; clear hl; have hl := hl2; clear hl2
                            refine then_normal ?_
                            refine c_condF hl rfl ?_
                            have hnB : ¬ MtB r.ru t.ru s.l o.l := by
                              first
                              | assumption
                              | (exfalso; simp at hc8; done)
                              | contradiction
                            refine wp_skip ?_
                            refine blk_normal ?_
                            refine then_normal ?_
                            refine c_region ?_
                            first | refine wl (wl_val hl rfl trivial (r_add hl rfl rfl (by simp only [Fits]; omega)) ?_) | refine wl (wl_val hl rfl trivial (r_addW hl rfl rfl) ?_)
                            clear hl a; intro a hl
                            refine wl (wl_val hl rfl trivial (r_move hl rfl) ?_)
                            clear hl a; intro a hl
                            refine w_nil ?_
                            have hl2 := hl.add (t := 2) (hl.add (t := 3) (hl.add (t := 5) (hl.add (t := 6) (hl.add (t := 7) (hl.add (t := 9) (hl.add (t := 15) (hl.add (t := 61) (hl.add (t := 62) (hl.add (t := 63) (hl.add (t := 106) (hl.add (t := 107) (hl.add (t := 108) (hl.nil) rfl) rfl) rfl) rfl) rfl) rfl) rfl) rfl) rfl) rfl) rfl) rfl) rfl; clear hl; have hl := hl2; clear hl2
                            refine then_normal ?_
                            refine ⟨i3 + 1, (by omega), ⟨by omega, take_next hI3 hon hnB⟩, hl.addE (t := 108) (hl.addE (t := 2) (hl.addE (t := 3) (hl.addE (t := 5) (hl.addE (t := 6) (hl.addE (t := 7) (hl.addE (t := 9) (hl.addE (t := 15) (hl.addE (t := 61) (hl.addE (t := 62) (hl.addE (t := 63) (hl.addE (t := 106) (hl.addE (t := 107) (hl.nil) rfl (by first | rfl | exact congrArg (Value.int .i64) (show (i3 : Int) + 1 = ((i3 + 1 : Nat) : Int) by omega) | (rw [hq4]) | (rw [hq5]) | (rw [hq6]))) rfl (by first | rfl | exact congrArg (Value.int .i64) (show (i3 : Int) + 1 = ((i3 + 1 : Nat) : Int) by omega) | (rw [hq4]) | (rw [hq5]) | (rw [hq6]))) rfl (by first | rfl | exact congrArg (Value.int .i64) (show (i3 : Int) + 1 = ((i3 + 1 : Nat) : Int) by omega) | (rw [hq4]) | (rw [hq5]) | (rw [hq6]))) rfl (by first | rfl | exact congrArg (Value.int .i64) (show (i3 : Int) + 1 = ((i3 + 1 : Nat) : Int) by omega) | (rw [hq4]) | (rw [hq5]) | (rw [hq6]))) rfl (by first | rfl | exact congrArg (Value.int .i64) (show (i3 : Int) + 1 = ((i3 + 1 : Nat) : Int) by omega) | (rw [hq4]) | (rw [hq5]) | (rw [hq6]))) rfl (by first | rfl | exact congrArg (Value.int .i64) (show (i3 : Int) + 1 = ((i3 + 1 : Nat) : Int) by omega) | (rw [hq4]) | (rw [hq5]) | (rw [hq6]))) rfl (by first | rfl | exact congrArg (Value.int .i64) (show (i3 : Int) + 1 = ((i3 + 1 : Nat) : Int) by omega) | (rw [hq4]) | (rw [hq5]) | (rw [hq6]))) rfl (by first | rfl | exact congrArg (Value.int .i64) (show (i3 : Int) + 1 = ((i3 + 1 : Nat) : Int) by omega) | (rw [hq4]) | (rw [hq5]) | (rw [hq6]))) rfl (by first | rfl | exact congrArg (Value.int .i64) (show (i3 : Int) + 1 = ((i3 + 1 : Nat) : Int) by omega) | (rw [hq4]) | (rw [hq5]) | (rw [hq6]))) rfl (by first | rfl | exact congrArg (Value.int .i64) (show (i3 : Int) + 1 = ((i3 + 1 : Nat) : Int) by omega) | (rw [hq4]) | (rw [hq5]) | (rw [hq6]))) rfl (by first | rfl | exact congrArg (Value.int .i64) (show (i3 : Int) + 1 = ((i3 + 1 : Nat) : Int) by omega) | (rw [hq4]) | (rw [hq5]) | (rw [hq6]))) rfl (by first | rfl | exact congrArg (Value.int .i64) (show (i3 : Int) + 1 = ((i3 + 1 : Nat) : Int) by omega) | (rw [hq4]) | (rw [hq5]) | (rw [hq6]))) rfl (by first | rfl | exact congrArg (Value.int .i64) (show (i3 : Int) + 1 = ((i3 + 1 : Nat) : Int) by omega) | (rw [hq4]) | (rw [hq5]) | (rw [hq6])), hh.keep (by repeat (first | exact keeps_nil | apply keeps_cons (by repeat (first | exact find_head | apply find_tail | apply find_skip)) (by first  | (rw [hq5]) | (rw [hq6]) | rfl) | exact keeps_self | exact keeps_left | apply keeps_app | apply keeps_mv | apply keeps_skip))⟩
                          · intro hg7; clear hl; intro hl
                            try simp only [decide_eq_true_eq, decide_eq_false_iff_not, Bool.not_eq_true', Bool.not_eq_false', Bool.not_eq_true, Bool.not_eq_false, Bool.and_eq_true, Bool.or_eq_true, Bool.and_eq_false_iff, Bool.or_eq_false_iff, Bool.not_not, ne_eq, Int.not_lt, Int.not_le, Decidable.not_not, beq_iff_eq, bne_iff_ne] at hg7
                            refine wl (wl_val hl rfl ⟨_, _, rfl, rfl, rfl⟩ (r_field hl rfl fld44_2) ?_)
                            clear hl a; intro a hl
                            refine wl (wl_val hl rfl ⟨_, _, rfl, rfl, rfl⟩ (r_field hl rfl fld32_0) ?_)
                            clear hl a; intro a hl
                            first | refine wl (w_load hl hh rfl ⟨_, _, rfl, rfl, rfl⟩ one9 rfl (by repeat (first | exact find_head | apply find_tail | apply find_skip)) (by first | rfl) ?_) | refine wl (wl_val hl rfl ⟨_, _, rfl, rfl, rfl⟩ (r_load hl rfl one9 (hh.mem _ _ (by repeat (first | exact hb1m | exact List.mem_append_left _ hb1m | apply List.mem_cons_of_mem | apply List.mem_append_right))) (List.getElem?_toArray.trans hd1)) ?_) | refine wl (wl_val hl rfl ⟨_, _, rfl, rfl, rfl⟩ (r_load hl rfl one9 (hh.mem _ _ (by repeat (first | exact hb2m | exact List.mem_append_left _ hb2m | apply List.mem_cons_of_mem | apply List.mem_append_right))) (List.getElem?_toArray.trans hd2)) ?_) | refine wl (wl_val hl rfl ⟨_, _, rfl, rfl, rfl⟩ (r_load hl rfl one9 (hh.mem _ _ (by repeat (first | exact hb3m | exact List.mem_append_left _ hb3m | apply List.mem_cons_of_mem | apply List.mem_append_right))) (List.getElem?_toArray.trans hd3)) ?_) | refine wl (wl_val hl rfl ⟨_, _, rfl, rfl, rfl⟩ (r_load hl rfl one9 (hh.mem _ _ (by repeat (first | exact hmemS | exact List.mem_append_left _ hmemS | apply List.mem_cons_of_mem | apply List.mem_append_right))) (List.getElem?_toArray.trans hd4)) ?_) | refine wl (wl_val hl rfl ⟨_, _, rfl, rfl, rfl⟩ (r_load hl rfl one9 (hh.mem _ _ (by repeat (first | exact hb4m | exact List.mem_append_left _ hb4m | apply List.mem_cons_of_mem | apply List.mem_append_right))) (List.getElem?_toArray.trans hd6)) ?_) | refine wl (wl_val hl rfl ⟨_, _, rfl, rfl, rfl⟩ (r_load hl rfl one9 (hh.mem _ _ (by repeat (first | exact hmemO | exact List.mem_append_left _ hmemO | apply List.mem_cons_of_mem | apply List.mem_append_right))) (List.getElem?_toArray.trans hd7)) ?_)
                            clear hl a; intro a hl
                            refine wl (wl_val hl rfl ⟨_, _, rfl, rfl, rfl⟩ (r_field hl rfl fld44_2) ?_)
                            clear hl a; intro a hl
                            refine wl (wl_val hl rfl ⟨_, _, rfl, rfl, rfl⟩ (r_field hl rfl fld32_0) ?_)
                            clear hl a; intro a hl
                            first | refine wl (w_load hl hh rfl ⟨_, _, rfl, rfl, rfl⟩ one9 rfl (by repeat (first | exact find_head | apply find_tail | apply find_skip)) (by first | rfl) ?_) | refine wl (wl_val hl rfl ⟨_, _, rfl, rfl, rfl⟩ (r_load hl rfl one9 (hh.mem _ _ (by repeat (first | exact hb1m | exact List.mem_append_left _ hb1m | apply List.mem_cons_of_mem | apply List.mem_append_right))) (List.getElem?_toArray.trans hd1)) ?_) | refine wl (wl_val hl rfl ⟨_, _, rfl, rfl, rfl⟩ (r_load hl rfl one9 (hh.mem _ _ (by repeat (first | exact hb2m | exact List.mem_append_left _ hb2m | apply List.mem_cons_of_mem | apply List.mem_append_right))) (List.getElem?_toArray.trans hd2)) ?_) | refine wl (wl_val hl rfl ⟨_, _, rfl, rfl, rfl⟩ (r_load hl rfl one9 (hh.mem _ _ (by repeat (first | exact hb3m | exact List.mem_append_left _ hb3m | apply List.mem_cons_of_mem | apply List.mem_append_right))) (List.getElem?_toArray.trans hd3)) ?_) | refine wl (wl_val hl rfl ⟨_, _, rfl, rfl, rfl⟩ (r_load hl rfl one9 (hh.mem _ _ (by repeat (first | exact hmemS | exact List.mem_append_left _ hmemS | apply List.mem_cons_of_mem | apply List.mem_append_right))) (List.getElem?_toArray.trans hd4)) ?_) | refine wl (wl_val hl rfl ⟨_, _, rfl, rfl, rfl⟩ (r_load hl rfl one9 (hh.mem _ _ (by repeat (first | exact hb4m | exact List.mem_append_left _ hb4m | apply List.mem_cons_of_mem | apply List.mem_append_right))) (List.getElem?_toArray.trans hd6)) ?_) | refine wl (wl_val hl rfl ⟨_, _, rfl, rfl, rfl⟩ (r_load hl rfl one9 (hh.mem _ _ (by repeat (first | exact hmemO | exact List.mem_append_left _ hmemO | apply List.mem_cons_of_mem | apply List.mem_append_right))) (List.getElem?_toArray.trans hd7)) ?_)
                            clear hl a; intro a hl
                            refine wl (wl_val hl rfl ⟨_, _, rfl, rfl, rfl⟩ (r_neq_string hl rfl rfl) ?_)
                            clear hl a; intro a hl
                            refine wl (wl_val hl rfl trivial (r_pickF hl rfl rfl) ?_)
                            clear hl a; intro a hl
                            refine wl (wl_val hl rfl trivial (r_move hl rfl) ?_)
                            clear hl a; intro a hl
                            refine sl_split (t := 150) hl rfl ?_ ?_
                            · intro hg8; clear hl; intro hl
                              try simp only [decide_eq_true_eq, decide_eq_false_iff_not, Bool.not_eq_true', Bool.not_eq_false', Bool.not_eq_true, Bool.not_eq_false, Bool.and_eq_true, Bool.or_eq_true, Bool.and_eq_false_iff, Bool.or_eq_false_iff, Bool.not_not, ne_eq, Int.not_lt, Int.not_le, Decidable.not_not, beq_iff_eq, bne_iff_ne] at hg8
                              refine wl (wl_skip hl rfl ⟨_, _, rfl, rfl, rfl⟩ ?_)
                              clear hl a; intro a hl
                              refine wl (wl_skip hl rfl ⟨_, _, rfl, rfl, rfl⟩ ?_)
                              clear hl a; intro a hl
                              refine wl (wl_skip hl rfl ⟨_, _, rfl, rfl, rfl⟩ ?_)
                              clear hl a; intro a hl
                              refine wl (wl_skip hl rfl ⟨_, _, rfl, rfl, rfl⟩ ?_)
                              clear hl a; intro a hl
                              refine wl (wl_skip hl rfl ⟨_, _, rfl, rfl, rfl⟩ ?_)
                              clear hl a; intro a hl
                              refine wl (wl_skip hl rfl ⟨_, _, rfl, rfl, rfl⟩ ?_)
                              clear hl a; intro a hl
                              refine wl (wl_skip hl rfl ⟨_, _, rfl, rfl, rfl⟩ ?_)
                              clear hl a; intro a hl
                              refine wl (wl_skip hl rfl ⟨_, _, rfl, rfl, rfl⟩ ?_)
                              clear hl a; intro a hl
                              refine wl (wl_val hl rfl trivial (r_pickT hl rfl rfl) ?_)
                              clear hl a; intro a hl
                              refine w_nil ?_
                              have hl2 := hl.add (t := 2) (hl.add (t := 3) (hl.add (t := 5) (hl.add (t := 6) (hl.add (t := 7) (hl.add (t := 9) (hl.add (t := 15) (hl.add (t := 18) (hl.add (t := 61) (hl.add (t := 62) (hl.add (t := 63) (hl.add (t := 106) (hl.add (t := 107) (hl.add (t := 108) (hl.add (t := 112) (hl.add (t := 113) (hl.add (t := 114) (hl.add (t := 159) (hl.nil) rfl) rfl) rfl) rfl) rfl) rfl) rfl) rfl) rfl) rfl) rfl) rfl) rfl) rfl) rfl) rfl) rfl) rfl; clear hl; have hl := hl2; clear hl2
                              refine then_normal ?_
                              refine c_condT hl rfl ?_
                              have hxy : ¬ x.l = y.l := by
                                first
                                | exact fun h9 => absurd (lt_eq.1 h9).1 (by assumption)
                                | exact fun h9 => absurd (lt_eq.1 h9).2.1 (by assumption)
                                | exact fun h9 => by_f (by assumption) (lt_eq.1 h9).2.2.1
                                | exact fun h9 => absurd (lt_eq.1 h9).2.2.2 (by assumption)
                              have hnB : ¬ MtB r.ru t.ru s.l o.l := mtb_no (L := r'.ls.map LV.l) hrn.b (fun i hi => by have := perm_rng hop9 hi; rw [List.length_map, hrn.n]; omega) hq (map_at LV.l hx) (map_at LV.l hy) hxy
                              refine c_seq ?_
                              refine c_region ?_
                              refine wl (wl_val hl rfl trivial (r_assign hl rfl) ?_)
                              clear hl a; intro a hl
                              refine w_nil ?_
                              have hl2 := hl.add (t := 2) (hl.add (t := 3) (hl.add (t := 5) (hl.add (t := 6) (hl.add (t := 7) (hl.add (t := 9) (hl.add (t := 15) (hl.add (t := 18) (hl.add (t := 61) (hl.add (t := 62) (hl.add (t := 63) (hl.add (t := 106) (hl.add (t := 107) (hl.add (t := 108) (hl.nil) rfl) rfl) rfl) rfl) rfl) rfl) rfl) rfl) rfl) rfl) rfl) rfl) rfl) rfl; clear hl; have hl := hl2; clear hl2
                              refine then_normal ?_
                              refine wp_exit ?_
                              refine blk_exit_ne rfl ?_
                              refine then_exit ?_
                              refine then_exit ?_
                              refine blk_exit ?_
                              refine then_normal ?_
                              refine c_seq ?_
                              refine c_region ?_
                              refine wl (wl_val hl rfl trivial (r_move hl rfl) ?_)
                              clear hl a; intro a hl
                              refine w_nil ?_
                              have hl2 := hl.add (t := 2) (hl.add (t := 3) (hl.add (t := 5) (hl.add (t := 6) (hl.add (t := 7) (hl.add (t := 9) (hl.add (t := 15) (hl.add (t := 61) (hl.add (t := 62) (hl.add (t := 63) (hl.add (t := 106) (hl.add (t := 107) (hl.add (t := 108) (hl.add (t := 161) (hl.nil) rfl) rfl) rfl) rfl) rfl) rfl) rfl) rfl) rfl) rfl) rfl) rfl) rfl) rfl; clear hl; have hl := hl2; clear hl2
                              refine then_normal ?_
                              refine c_condF hl rfl ?_
                              have hnB : ¬ MtB r.ru t.ru s.l o.l := by
                                first
                                | assumption
                                | (exfalso; simp at hc8; done)
                                | contradiction
                              refine wp_skip ?_
                              refine blk_normal ?_
                              refine then_normal ?_
                              refine c_region ?_
                              first | refine wl (wl_val hl rfl trivial (r_add hl rfl rfl (by simp only [Fits]; omega)) ?_) | refine wl (wl_val hl rfl trivial (r_addW hl rfl rfl) ?_)
                              clear hl a; intro a hl
                              refine wl (wl_val hl rfl trivial (r_move hl rfl) ?_)
                              clear hl a; intro a hl
                              refine w_nil ?_
                              have hl2 := hl.add (t := 2) (hl.add (t := 3) (hl.add (t := 5) (hl.add (t := 6) (hl.add (t := 7) (hl.add (t := 9) (hl.add (t := 15) (hl.add (t := 61) (hl.add (t := 62) (hl.add (t := 63) (hl.add (t := 106) (hl.add (t := 107) (hl.add (t := 108) (hl.nil) rfl) rfl) rfl) rfl) rfl) rfl) rfl) rfl) rfl) rfl) rfl) rfl) rfl; clear hl; have hl := hl2; clear hl2
                              refine then_normal ?_
                              refine ⟨i3 + 1, (by omega), ⟨by omega, take_next hI3 hon hnB⟩, hl.addE (t := 108) (hl.addE (t := 2) (hl.addE (t := 3) (hl.addE (t := 5) (hl.addE (t := 6) (hl.addE (t := 7) (hl.addE (t := 9) (hl.addE (t := 15) (hl.addE (t := 61) (hl.addE (t := 62) (hl.addE (t := 63) (hl.addE (t := 106) (hl.addE (t := 107) (hl.nil) rfl (by first | rfl | exact congrArg (Value.int .i64) (show (i3 : Int) + 1 = ((i3 + 1 : Nat) : Int) by omega) | (rw [hq4]) | (rw [hq5]) | (rw [hq6]))) rfl (by first | rfl | exact congrArg (Value.int .i64) (show (i3 : Int) + 1 = ((i3 + 1 : Nat) : Int) by omega) | (rw [hq4]) | (rw [hq5]) | (rw [hq6]))) rfl (by first | rfl | exact congrArg (Value.int .i64) (show (i3 : Int) + 1 = ((i3 + 1 : Nat) : Int) by omega) | (rw [hq4]) | (rw [hq5]) | (rw [hq6]))) rfl (by first | rfl | exact congrArg (Value.int .i64) (show (i3 : Int) + 1 = ((i3 + 1 : Nat) : Int) by omega) | (rw [hq4]) | (rw [hq5]) | (rw [hq6]))) rfl (by first | rfl | exact congrArg (Value.int .i64) (show (i3 : Int) + 1 = ((i3 + 1 : Nat) : Int) by omega) | (rw [hq4]) | (rw [hq5]) | (rw [hq6]))) rfl (by first | rfl | exact congrArg (Value.int .i64) (show (i3 : Int) + 1 = ((i3 + 1 : Nat) : Int) by omega) | (rw [hq4]) | (rw [hq5]) | (rw [hq6]))) rfl (by first | rfl | exact congrArg (Value.int .i64) (show (i3 : Int) + 1 = ((i3 + 1 : Nat) : Int) by omega) | (rw [hq4]) | (rw [hq5]) | (rw [hq6]))) rfl (by first | rfl | exact congrArg (Value.int .i64) (show (i3 : Int) + 1 = ((i3 + 1 : Nat) : Int) by omega) | (rw [hq4]) | (rw [hq5]) | (rw [hq6]))) rfl (by first | rfl | exact congrArg (Value.int .i64) (show (i3 : Int) + 1 = ((i3 + 1 : Nat) : Int) by omega) | (rw [hq4]) | (rw [hq5]) | (rw [hq6]))) rfl (by first | rfl | exact congrArg (Value.int .i64) (show (i3 : Int) + 1 = ((i3 + 1 : Nat) : Int) by omega) | (rw [hq4]) | (rw [hq5]) | (rw [hq6]))) rfl (by first | rfl | exact congrArg (Value.int .i64) (show (i3 : Int) + 1 = ((i3 + 1 : Nat) : Int) by omega) | (rw [hq4]) | (rw [hq5]) | (rw [hq6]))) rfl (by first | rfl | exact congrArg (Value.int .i64) (show (i3 : Int) + 1 = ((i3 + 1 : Nat) : Int) by omega) | (rw [hq4]) | (rw [hq5]) | (rw [hq6]))) rfl (by first | rfl | exact congrArg (Value.int .i64) (show (i3 : Int) + 1 = ((i3 + 1 : Nat) : Int) by omega) | (rw [hq4]) | (rw [hq5]) | (rw [hq6])), hh.keep (by repeat (first | exact keeps_nil | apply keeps_cons (by repeat (first | exact find_head | apply find_tail | apply find_skip)) (by first  | (rw [hq5]) | (rw [hq6]) | rfl) | exact keeps_self | exact keeps_left | apply keeps_app | apply keeps_mv | apply keeps_skip))⟩
                            · intro hg8; clear hl; intro hl
                              try simp only [decide_eq_true_eq, decide_eq_false_iff_not, Bool.not_eq_true', Bool.not_eq_false', Bool.not_eq_true, Bool.not_eq_false, Bool.and_eq_true, Bool.or_eq_true, Bool.and_eq_false_iff, Bool.or_eq_false_iff, Bool.not_not, ne_eq, Int.not_lt, Int.not_le, Decidable.not_not, beq_iff_eq, bne_iff_ne] at hg8
                              refine wl (wl_val hl rfl ⟨_, _, rfl, rfl, rfl⟩ (r_field hl rfl fld44_2) ?_)
                              clear hl a; intro a hl
                              refine wl (wl_val hl rfl ⟨_, _, rfl, rfl, rfl⟩ (r_field hl rfl fld32_1) ?_)
                              clear hl a; intro a hl
                              first | refine wl (w_load hl hh rfl ⟨_, _, rfl, rfl, rfl⟩ one30 rfl (by repeat (first | exact find_head | apply find_tail | apply find_skip)) (by first | rfl) ?_) | refine wl (wl_val hl rfl ⟨_, _, rfl, rfl, rfl⟩ (r_load hl rfl one30 (hh.mem _ _ (by repeat (first | exact hb1m | exact List.mem_append_left _ hb1m | apply List.mem_cons_of_mem | apply List.mem_append_right))) (List.getElem?_toArray.trans hd1)) ?_) | refine wl (wl_val hl rfl ⟨_, _, rfl, rfl, rfl⟩ (r_load hl rfl one30 (hh.mem _ _ (by repeat (first | exact hb2m | exact List.mem_append_left _ hb2m | apply List.mem_cons_of_mem | apply List.mem_append_right))) (List.getElem?_toArray.trans hd2)) ?_) | refine wl (wl_val hl rfl ⟨_, _, rfl, rfl, rfl⟩ (r_load hl rfl one30 (hh.mem _ _ (by repeat (first | exact hb3m | exact List.mem_append_left _ hb3m | apply List.mem_cons_of_mem | apply List.mem_append_right))) (List.getElem?_toArray.trans hd3)) ?_) | refine wl (wl_val hl rfl ⟨_, _, rfl, rfl, rfl⟩ (r_load hl rfl one30 (hh.mem _ _ (by repeat (first | exact hmemS | exact List.mem_append_left _ hmemS | apply List.mem_cons_of_mem | apply List.mem_append_right))) (List.getElem?_toArray.trans hd4)) ?_) | refine wl (wl_val hl rfl ⟨_, _, rfl, rfl, rfl⟩ (r_load hl rfl one30 (hh.mem _ _ (by repeat (first | exact hb4m | exact List.mem_append_left _ hb4m | apply List.mem_cons_of_mem | apply List.mem_append_right))) (List.getElem?_toArray.trans hd6)) ?_) | refine wl (wl_val hl rfl ⟨_, _, rfl, rfl, rfl⟩ (r_load hl rfl one30 (hh.mem _ _ (by repeat (first | exact hmemO | exact List.mem_append_left _ hmemO | apply List.mem_cons_of_mem | apply List.mem_append_right))) (List.getElem?_toArray.trans hd7)) ?_)
                              clear hl a; intro a hl
                              refine wl (wl_val hl rfl ⟨_, _, rfl, rfl, rfl⟩ (r_field hl rfl fld44_2) ?_)
                              clear hl a; intro a hl
                              refine wl (wl_val hl rfl ⟨_, _, rfl, rfl, rfl⟩ (r_field hl rfl fld32_1) ?_)
                              clear hl a; intro a hl
                              first | refine wl (w_load hl hh rfl ⟨_, _, rfl, rfl, rfl⟩ one30 rfl (by repeat (first | exact find_head | apply find_tail | apply find_skip)) (by first | rfl) ?_) | refine wl (wl_val hl rfl ⟨_, _, rfl, rfl, rfl⟩ (r_load hl rfl one30 (hh.mem _ _ (by repeat (first | exact hb1m | exact List.mem_append_left _ hb1m | apply List.mem_cons_of_mem | apply List.mem_append_right))) (List.getElem?_toArray.trans hd1)) ?_) | refine wl (wl_val hl rfl ⟨_, _, rfl, rfl, rfl⟩ (r_load hl rfl one30 (hh.mem _ _ (by repeat (first | exact hb2m | exact List.mem_append_left _ hb2m | apply List.mem_cons_of_mem | apply List.mem_append_right))) (List.getElem?_toArray.trans hd2)) ?_) | refine wl (wl_val hl rfl ⟨_, _, rfl, rfl, rfl⟩ (r_load hl rfl one30 (hh.mem _ _ (by repeat (first | exact hb3m | exact List.mem_append_left _ hb3m | apply List.mem_cons_of_mem | apply List.mem_append_right))) (List.getElem?_toArray.trans hd3)) ?_) | refine wl (wl_val hl rfl ⟨_, _, rfl, rfl, rfl⟩ (r_load hl rfl one30 (hh.mem _ _ (by repeat (first | exact hmemS | exact List.mem_append_left _ hmemS | apply List.mem_cons_of_mem | apply List.mem_append_right))) (List.getElem?_toArray.trans hd4)) ?_) | refine wl (wl_val hl rfl ⟨_, _, rfl, rfl, rfl⟩ (r_load hl rfl one30 (hh.mem _ _ (by repeat (first | exact hb4m | exact List.mem_append_left _ hb4m | apply List.mem_cons_of_mem | apply List.mem_append_right))) (List.getElem?_toArray.trans hd6)) ?_) | refine wl (wl_val hl rfl ⟨_, _, rfl, rfl, rfl⟩ (r_load hl rfl one30 (hh.mem _ _ (by repeat (first | exact hmemO | exact List.mem_append_left _ hmemO | apply List.mem_cons_of_mem | apply List.mem_append_right))) (List.getElem?_toArray.trans hd7)) ?_)
                              clear hl a; intro a hl
                              refine wl (w_call hl hh rfl ⟨_, _, rfl, rfl, rfl⟩ rfl cal58 rfl (eqTs_spec x.l.a y.l.a _ _ _ _ _ _ (hr'.ls x hxm).ags (ht.ls y hym).ags) (by repeat (first | exact keeps_nil | apply keeps_cons (by repeat (first | exact find_head | apply find_tail | apply find_skip)) (by first  | rfl) | exact keeps_self | exact keeps_left | apply keeps_app | apply keeps_mv | apply keeps_skip)) ⟨RV.ml (memK hh (by repeat (first | exact keeps_nil | apply keeps_cons (by repeat (first | exact find_head | apply find_tail | apply find_skip)) (by first  | rfl) | exact keeps_self | exact keeps_left | apply keeps_app | apply keeps_mv | apply keeps_skip))) hxm, mem_keep hh (RV.ml hpre.2 hym)⟩ ?_)
                              clear hl hh a w; intro vc Fc a w hR hl hh
                              obtain ⟨rfl, rfl⟩ := hR
                              try simp only [List.cons_append, List.nil_append, List.append_assoc, List.append_nil] at hh
                              refine wl (wl_val hl rfl ⟨_, _, rfl, rfl, rfl⟩ (r_not hl rfl) ?_)
                              clear hl a; intro a hl
                              refine wl (wl_val hl rfl trivial (r_pickF hl rfl rfl) ?_)
                              clear hl a; intro a hl
                              refine w_nil ?_
                              have hl2 := hl.add (t := 2) (hl.add (t := 3) (hl.add (t := 5) (hl.add (t := 6) (hl.add (t := 7) (hl.add (t := 9) (hl.add (t := 15) (hl.add (t := 18) (hl.add (t := 61) (hl.add (t := 62) (hl.add (t := 63) (hl.add (t := 106) (hl.add (t := 107) (hl.add (t := 108) (hl.add (t := 112) (hl.add (t := 113) (hl.add (t := 114) (hl.add (t := 159) (hl.nil) rfl) rfl) rfl) rfl) rfl) rfl) rfl) rfl) rfl) rfl) rfl) rfl) rfl) rfl) rfl) rfl) rfl) rfl; clear hl; have hl := hl2; clear hl2
                              refine then_normal ?_
                              refine c_cond hl rfl ?_ ?_
                              · intro hc7
                                try simp only [decide_eq_true_eq, decide_eq_false_iff_not, Bool.not_eq_true', Bool.not_eq_false', Bool.not_eq_true, Bool.not_eq_false, Bool.and_eq_true, Bool.or_eq_true, Bool.and_eq_false_iff, Bool.or_eq_false_iff, Bool.not_not, ne_eq, Int.not_lt, Int.not_le, Decidable.not_not, beq_iff_eq, bne_iff_ne] at hc7
                                have hxy : ¬ x.l = y.l := by
                                  first
                                  | exact fun h9 => absurd (lt_eq.1 h9).1 (by assumption)
                                  | exact fun h9 => absurd (lt_eq.1 h9).2.1 (by assumption)
                                  | exact fun h9 => by_f (by assumption) (lt_eq.1 h9).2.2.1
                                  | exact fun h9 => absurd (lt_eq.1 h9).2.2.2 (by assumption)
                                have hnB : ¬ MtB r.ru t.ru s.l o.l := mtb_no (L := r'.ls.map LV.l) hrn.b (fun i hi => by have := perm_rng hop9 hi; rw [List.length_map, hrn.n]; omega) hq (map_at LV.l hx) (map_at LV.l hy) hxy
                                refine c_seq ?_
                                refine c_region ?_
                                refine wl (wl_val hl rfl trivial (r_assign hl rfl) ?_)
                                clear hl a; intro a hl
                                refine w_nil ?_
                                have hl2 := hl.add (t := 2) (hl.add (t := 3) (hl.add (t := 5) (hl.add (t := 6) (hl.add (t := 7) (hl.add (t := 9) (hl.add (t := 15) (hl.add (t := 18) (hl.add (t := 61) (hl.add (t := 62) (hl.add (t := 63) (hl.add (t := 106) (hl.add (t := 107) (hl.add (t := 108) (hl.nil) rfl) rfl) rfl) rfl) rfl) rfl) rfl) rfl) rfl) rfl) rfl) rfl) rfl) rfl; clear hl; have hl := hl2; clear hl2
                                refine then_normal ?_
                                refine wp_exit ?_
                                refine blk_exit_ne rfl ?_
                                refine then_exit ?_
                                refine then_exit ?_
                                refine blk_exit ?_
                                refine then_normal ?_
                                refine c_seq ?_
                                refine c_region ?_
                                refine wl (wl_val hl rfl trivial (r_move hl rfl) ?_)
                                clear hl a; intro a hl
                                refine w_nil ?_
                                have hl2 := hl.add (t := 2) (hl.add (t := 3) (hl.add (t := 5) (hl.add (t := 6) (hl.add (t := 7) (hl.add (t := 9) (hl.add (t := 15) (hl.add (t := 61) (hl.add (t := 62) (hl.add (t := 63) (hl.add (t := 106) (hl.add (t := 107) (hl.add (t := 108) (hl.add (t := 161) (hl.nil) rfl) rfl) rfl) rfl) rfl) rfl) rfl) rfl) rfl) rfl) rfl) rfl) rfl) rfl; clear hl; have hl := hl2; clear hl2
                                refine then_normal ?_
                                refine c_condF hl rfl ?_
                                have hnB : ¬ MtB r.ru t.ru s.l o.l := by
                                  first
                                  | assumption
                                  | (exfalso; simp at hc8; done)
                                  | contradiction
                                refine wp_skip ?_
                                refine blk_normal ?_
                                refine then_normal ?_
                                refine c_region ?_
                                first | refine wl (wl_val hl rfl trivial (r_add hl rfl rfl (by simp only [Fits]; omega)) ?_) | refine wl (wl_val hl rfl trivial (r_addW hl rfl rfl) ?_)
                                clear hl a; intro a hl
                                refine wl (wl_val hl rfl trivial (r_move hl rfl) ?_)
                                clear hl a; intro a hl
                                refine w_nil ?_
                                have hl2 := hl.add (t := 2) (hl.add (t := 3) (hl.add (t := 5) (hl.add (t := 6) (hl.add (t := 7) (hl.add (t := 9) (hl.add (t := 15) (hl.add (t := 61) (hl.add (t := 62) (hl.add (t := 63) (hl.add (t := 106) (hl.add (t := 107) (hl.add (t := 108) (hl.nil) rfl) rfl) rfl) rfl) rfl) rfl) rfl) rfl) rfl) rfl) rfl) rfl) rfl; clear hl; have hl := hl2; clear hl2
                                refine then_normal ?_
                                refine ⟨i3 + 1, (by omega), ⟨by omega, take_next hI3 hon hnB⟩, hl.addE (t := 108) (hl.addE (t := 2) (hl.addE (t := 3) (hl.addE (t := 5) (hl.addE (t := 6) (hl.addE (t := 7) (hl.addE (t := 9) (hl.addE (t := 15) (hl.addE (t := 61) (hl.addE (t := 62) (hl.addE (t := 63) (hl.addE (t := 106) (hl.addE (t := 107) (hl.nil) rfl (by first | rfl | exact congrArg (Value.int .i64) (show (i3 : Int) + 1 = ((i3 + 1 : Nat) : Int) by omega) | (rw [hq4]) | (rw [hq5]) | (rw [hq6]))) rfl (by first | rfl | exact congrArg (Value.int .i64) (show (i3 : Int) + 1 = ((i3 + 1 : Nat) : Int) by omega) | (rw [hq4]) | (rw [hq5]) | (rw [hq6]))) rfl (by first | rfl | exact congrArg (Value.int .i64) (show (i3 : Int) + 1 = ((i3 + 1 : Nat) : Int) by omega) | (rw [hq4]) | (rw [hq5]) | (rw [hq6]))) rfl (by first | rfl | exact congrArg (Value.int .i64) (show (i3 : Int) + 1 = ((i3 + 1 : Nat) : Int) by omega) | (rw [hq4]) | (rw [hq5]) | (rw [hq6]))) rfl (by first | rfl | exact congrArg (Value.int .i64) (show (i3 : Int) + 1 = ((i3 + 1 : Nat) : Int) by omega) | (rw [hq4]) | (rw [hq5]) | (rw [hq6]))) rfl (by first | rfl | exact congrArg (Value.int .i64) (show (i3 : Int) + 1 = ((i3 + 1 : Nat) : Int) by omega) | (rw [hq4]) | (rw [hq5]) | (rw [hq6]))) rfl (by first | rfl | exact congrArg (Value.int .i64) (show (i3 : Int) + 1 = ((i3 + 1 : Nat) : Int) by omega) | (rw [hq4]) | (rw [hq5]) | (rw [hq6]))) rfl (by first | rfl | exact congrArg (Value.int .i64) (show (i3 : Int) + 1 = ((i3 + 1 : Nat) : Int) by omega) | (rw [hq4]) | (rw [hq5]) | (rw [hq6]))) rfl (by first | rfl | exact congrArg (Value.int .i64) (show (i3 : Int) + 1 = ((i3 + 1 : Nat) : Int) by omega) | (rw [hq4]) | (rw [hq5]) | (rw [hq6]))) rfl (by first | rfl | exact congrArg (Value.int .i64) (show (i3 : Int) + 1 = ((i3 + 1 : Nat) : Int) by omega) | (rw [hq4]) | (rw [hq5]) | (rw [hq6]))) rfl (by first | rfl | exact congrArg (Value.int .i64) (show (i3 : Int) + 1 = ((i3 + 1 : Nat) : Int) by omega) | (rw [hq4]) | (rw [hq5]) | (rw [hq6]))) rfl (by first | rfl | exact congrArg (Value.int .i64) (show (i3 : Int) + 1 = ((i3 + 1 : Nat) : Int) by omega) | (rw [hq4]) | (rw [hq5]) | (rw [hq6]))) rfl (by first | rfl | exact congrArg (Value.int .i64) (show (i3 : Int) + 1 = ((i3 + 1 : Nat) : Int) by omega) | (rw [hq4]) | (rw [hq5]) | (rw [hq6])), hh.keep (by repeat (first | exact keeps_nil | apply keeps_cons (by repeat (first | exact find_head | apply find_tail | apply find_skip)) (by first  | (rw [hq5]) | (rw [hq6]) | rfl) | exact keeps_self | exact keeps_left | apply keeps_app | apply keeps_mv | apply keeps_skip))⟩
                              · intro hc7
                                try simp only [decide_eq_true_eq, decide_eq_false_iff_not, Bool.not_eq_true', Bool.not_eq_false', Bool.not_eq_true, Bool.not_eq_false, Bool.and_eq_true, Bool.or_eq_true, Bool.and_eq_false_iff, Bool.or_eq_false_iff, Bool.not_not, ne_eq, Int.not_lt, Int.not_le, Decidable.not_not, beq_iff_eq, bne_iff_ne] at hc7
                                have hxy : x.l = y.l := lt_eq.2 ⟨by assumption, by assumption, by_t (by assumption), by assumption⟩
                                refine wp_skip ?_
                                refine blk_normal ?_
                                refine then_normal ?_
                                refine c_region ?_
                                first | refine wl (wl_val hl rfl trivial (r_add hl rfl rfl (by simp only [Fits]; omega)) ?_) | refine wl (wl_val hl rfl trivial (r_addW hl rfl rfl) ?_)
                                clear hl a; intro a hl
                                refine wl (wl_val hl rfl trivial (r_move hl rfl) ?_)
                                clear hl a; intro a hl
                                refine w_nil ?_
                                have hl2 := hl.add (t := 2) (hl.add (t := 3) (hl.add (t := 5) (hl.add (t := 6) (hl.add (t := 7) (hl.add (t := 9) (hl.add (t := 15) (hl.add (t := 18) (hl.add (t := 61) (hl.add (t := 62) (hl.add (t := 63) (hl.add (t := 106) (hl.add (t := 107) (hl.add (t := 108) (hl.add (t := 112) (hl.add (t := 113) (hl.add (t := 114) (hl.nil) rfl) rfl) rfl) rfl) rfl) rfl) rfl) rfl) rfl) rfl) rfl) rfl) rfl) rfl) rfl) rfl) rfl; clear hl; have hl := hl2; clear hl2
                                refine then_normal ?_
                                refine ⟨k + 1, (by omega), ⟨by omega, by rw [pick_snoc hq (map_at LV.l hx), hK, List.take_add_one, map_at LV.l hy, hxy]; rfl⟩, hl.addE (t := 114) (hl.addE (t := 18) (hl.addE (t := 2) (hl.addE (t := 3) (hl.addE (t := 5) (hl.addE (t := 6) (hl.addE (t := 7) (hl.addE (t := 9) (hl.addE (t := 15) (hl.addE (t := 61) (hl.addE (t := 62) (hl.addE (t := 63) (hl.addE (t := 106) (hl.addE (t := 107) (hl.addE (t := 108) (hl.addE (t := 112) (hl.addE (t := 113) (hl.nil) rfl (by first | rfl | exact congrArg (Value.int .i64) (show (k : Int) + 1 = ((k + 1 : Nat) : Int) by omega) | (rw [hq5]) | (rw [hq6]))) rfl (by first | rfl | exact congrArg (Value.int .i64) (show (k : Int) + 1 = ((k + 1 : Nat) : Int) by omega) | (rw [hq5]) | (rw [hq6]))) rfl (by first | rfl | exact congrArg (Value.int .i64) (show (k : Int) + 1 = ((k + 1 : Nat) : Int) by omega) | (rw [hq5]) | (rw [hq6]))) rfl (by first | rfl | exact congrArg (Value.int .i64) (show (k : Int) + 1 = ((k + 1 : Nat) : Int) by omega) | (rw [hq5]) | (rw [hq6]))) rfl (by first | rfl | exact congrArg (Value.int .i64) (show (k : Int) + 1 = ((k + 1 : Nat) : Int) by omega) | (rw [hq5]) | (rw [hq6]))) rfl (by first | rfl | exact congrArg (Value.int .i64) (show (k : Int) + 1 = ((k + 1 : Nat) : Int) by omega) | (rw [hq5]) | (rw [hq6]))) rfl (by first | rfl | exact congrArg (Value.int .i64) (show (k : Int) + 1 = ((k + 1 : Nat) : Int) by omega) | (rw [hq5]) | (rw [hq6]))) rfl (by first | rfl | exact congrArg (Value.int .i64) (show (k : Int) + 1 = ((k + 1 : Nat) : Int) by omega) | (rw [hq5]) | (rw [hq6]))) rfl (by first | rfl | exact congrArg (Value.int .i64) (show (k : Int) + 1 = ((k + 1 : Nat) : Int) by omega) | (rw [hq5]) | (rw [hq6]))) rfl (by first | rfl | exact congrArg (Value.int .i64) (show (k : Int) + 1 = ((k + 1 : Nat) : Int) by omega) | (rw [hq5]) | (rw [hq6]))) rfl (by first | rfl | exact congrArg (Value.int .i64) (show (k : Int) + 1 = ((k + 1 : Nat) : Int) by omega) | (rw [hq5]) | (rw [hq6]))) rfl (by first | rfl | exact congrArg (Value.int .i64) (show (k : Int) + 1 = ((k + 1 : Nat) : Int) by omega) | (rw [hq5]) | (rw [hq6]))) rfl (by first | rfl | exact congrArg (Value.int .i64) (show (k : Int) + 1 = ((k + 1 : Nat) : Int) by omega) | (rw [hq5]) | (rw [hq6]))) rfl (by first | rfl | exact congrArg (Value.int .i64) (show (k : Int) + 1 = ((k + 1 : Nat) : Int) by omega) | (rw [hq5]) | (rw [hq6]))) rfl (by first | rfl | exact congrArg (Value.int .i64) (show (k : Int) + 1 = ((k + 1 : Nat) : Int) by omega) | (rw [hq5]) | (rw [hq6]))) rfl (by first | rfl | exact congrArg (Value.int .i64) (show (k : Int) + 1 = ((k + 1 : Nat) : Int) by omega) | (rw [hq5]) | (rw [hq6]))) rfl (by first | rfl | exact congrArg (Value.int .i64) (show (k : Int) + 1 = ((k + 1 : Nat) : Int) by omega) | (rw [hq5]) | (rw [hq6])), hh.keep (by repeat (first | exact keeps_nil | apply keeps_cons (by repeat (first | exact find_head | apply find_tail | apply find_skip)) (by first  | (rw [hq5]) | (rw [hq6]) | rfl) | exact keeps_self | exact keeps_left | apply keeps_app | apply keeps_mv | apply keeps_skip))⟩
                    · intro hc6
                      try simp only [decide_eq_true_eq, decide_eq_false_iff_not, Bool.not_eq_true', Bool.not_eq_false', Bool.not_eq_true, Bool.not_eq_false, Bool.and_eq_true, Bool.or_eq_true, Bool.and_eq_false_iff, Bool.or_eq_false_iff, Bool.not_not, ne_eq, Int.not_lt, Int.not_le, Decidable.not_not, beq_iff_eq, bne_iff_ne] at hc6
                      have hMB : MtB r.ru t.ru s.l o.l := by
                        unfold MtB
                        have h9 : r'.ls.map LV.l = r.ru.b.map (chL (mtF r.ru t.ru s.l)) := hrn.b
                        rw [List.take_of_length_le (by omega), List.take_of_length_le (by rw [List.length_map]; omega)] at hK
                        rw [← h9]; exact hK
                      refine wp_exit ?_
                      refine then_exit ?_
                      refine then_exit ?_
                      refine blk_exit ?_
                      refine then_normal ?_
                      refine c_seq ?_
                      refine c_region ?_
                      refine wl (wl_val hl rfl trivial (r_move hl rfl) ?_)
                      clear hl a; intro a hl
                      refine w_nil ?_
                      have hl2 := hl.add (t := 2) (hl.add (t := 3) (hl.add (t := 5) (hl.add (t := 6) (hl.add (t := 7) (hl.add (t := 9) (hl.add (t := 15) (hl.add (t := 61) (hl.add (t := 62) (hl.add (t := 63) (hl.add (t := 106) (hl.add (t := 107) (hl.add (t := 108) (hl.add (t := 161) (hl.nil) rfl) rfl) rfl) rfl) rfl) rfl) rfl) rfl) rfl) rfl) rfl) rfl) rfl) rfl; clear hl; have hl := hl2; clear hl2
                      refine then_normal ?_
                      refine c_cond hl rfl ?_ ?_
                      · intro hc8
                        try simp only [decide_eq_true_eq, decide_eq_false_iff_not, Bool.not_eq_true', Bool.not_eq_false', Bool.not_eq_true, Bool.not_eq_false, Bool.and_eq_true, Bool.or_eq_true, Bool.and_eq_false_iff, Bool.or_eq_false_iff, Bool.not_not, ne_eq, Int.not_lt, Int.not_le, Decidable.not_not, beq_iff_eq, bne_iff_ne] at hc8
                        refine c_seq ?_
                        refine c_region ?_
                        refine wl (wl_val hl rfl trivial (r_assign hl rfl) ?_)
                        clear hl a; intro a hl
                        refine w_nil ?_
                        have hl2 := hl.add (t := 4) (hl.nil) rfl; clear hl; have hl := hl2; clear hl2
                        refine then_normal ?_
                        refine wp_ret ?_
                        refine blk_ret ?_
                        refine then_ret ?_
                        refine then_ret ?_
                        refine blk_ret ?_
                        refine blk_ret ?_
                        refine then_ret ?_
                        refine then_ret ?_
                        refine blk_ret ?_
                        refine then_ret ?_
                        refine f_ret1 (F' := []) hl hh rfl rfl (by repeat (first | exact keeps_nil | apply keeps_cons (by repeat (first | exact find_head | apply find_tail | apply find_skip)) (by first  | rfl) | exact keeps_self | exact keeps_left | apply keeps_app | apply keeps_mv | apply keeps_skip)) ?_
                        exact ⟨true, rfl, ⟨fun _ => ⟨⟨hvl, by omega⟩, s.l, List.mem_of_getElem? hsn, hmh, o.l, by rw [hbm]; exact List.mem_of_getElem? hon, hMB⟩, fun _ => rfl⟩, rfl⟩
                      · intro hc8
                        try simp only [decide_eq_true_eq, decide_eq_false_iff_not, Bool.not_eq_true', Bool.not_eq_false', Bool.not_eq_true, Bool.not_eq_false, Bool.and_eq_true, Bool.or_eq_true, Bool.and_eq_false_iff, Bool.or_eq_false_iff, Bool.not_not, ne_eq, Int.not_lt, Int.not_le, Decidable.not_not, beq_iff_eq, bne_iff_ne] at hc8
                        have hnB : ¬ MtB r.ru t.ru s.l o.l := by
                          first
                          | assumption
                          | (exfalso; simp at hc8; done)
                          | contradiction
                        refine wp_skip ?_
                        refine blk_normal ?_
                        refine then_normal ?_
                        refine c_region ?_
                        first | refine wl (wl_val hl rfl trivial (r_add hl rfl rfl (by simp only [Fits]; omega)) ?_) | refine wl (wl_val hl rfl trivial (r_addW hl rfl rfl) ?_)
                        clear hl a; intro a hl
                        refine wl (wl_val hl rfl trivial (r_move hl rfl) ?_)
                        clear hl a; intro a hl
                        refine w_nil ?_
                        have hl2 := hl.add (t := 2) (hl.add (t := 3) (hl.add (t := 5) (hl.add (t := 6) (hl.add (t := 7) (hl.add (t := 9) (hl.add (t := 15) (hl.add (t := 61) (hl.add (t := 62) (hl.add (t := 63) (hl.add (t := 106) (hl.add (t := 107) (hl.add (t := 108) (hl.nil) rfl) rfl) rfl) rfl) rfl) rfl) rfl) rfl) rfl) rfl) rfl) rfl) rfl; clear hl; have hl := hl2; clear hl2
                        refine then_normal ?_
                        refine ⟨i3 + 1, (by omega), ⟨by omega, take_next hI3 hon hnB⟩, hl.addE (t := 108) (hl.addE (t := 2) (hl.addE (t := 3) (hl.addE (t := 5) (hl.addE (t := 6) (hl.addE (t := 7) (hl.addE (t := 9) (hl.addE (t := 15) (hl.addE (t := 61) (hl.addE (t := 62) (hl.addE (t := 63) (hl.addE (t := 106) (hl.addE (t := 107) (hl.nil) rfl (by first | rfl | exact congrArg (Value.int .i64) (show (i3 : Int) + 1 = ((i3 + 1 : Nat) : Int) by omega) | (rw [hq4]) | (rw [hq5]) | (rw [hq6]))) rfl (by first | rfl | exact congrArg (Value.int .i64) (show (i3 : Int) + 1 = ((i3 + 1 : Nat) : Int) by omega) | (rw [hq4]) | (rw [hq5]) | (rw [hq6]))) rfl (by first | rfl | exact congrArg (Value.int .i64) (show (i3 : Int) + 1 = ((i3 + 1 : Nat) : Int) by omega) | (rw [hq4]) | (rw [hq5]) | (rw [hq6]))) rfl (by first | rfl | exact congrArg (Value.int .i64) (show (i3 : Int) + 1 = ((i3 + 1 : Nat) : Int) by omega) | (rw [hq4]) | (rw [hq5]) | (rw [hq6]))) rfl (by first | rfl | exact congrArg (Value.int .i64) (show (i3 : Int) + 1 = ((i3 + 1 : Nat) : Int) by omega) | (rw [hq4]) | (rw [hq5]) | (rw [hq6]))) rfl (by first | rfl | exact congrArg (Value.int .i64) (show (i3 : Int) + 1 = ((i3 + 1 : Nat) : Int) by omega) | (rw [hq4]) | (rw [hq5]) | (rw [hq6]))) rfl (by first | rfl | exact congrArg (Value.int .i64) (show (i3 : Int) + 1 = ((i3 + 1 : Nat) : Int) by omega) | (rw [hq4]) | (rw [hq5]) | (rw [hq6]))) rfl (by first | rfl | exact congrArg (Value.int .i64) (show (i3 : Int) + 1 = ((i3 + 1 : Nat) : Int) by omega) | (rw [hq4]) | (rw [hq5]) | (rw [hq6]))) rfl (by first | rfl | exact congrArg (Value.int .i64) (show (i3 : Int) + 1 = ((i3 + 1 : Nat) : Int) by omega) | (rw [hq4]) | (rw [hq5]) | (rw [hq6]))) rfl (by first | rfl | exact congrArg (Value.int .i64) (show (i3 : Int) + 1 = ((i3 + 1 : Nat) : Int) by omega) | (rw [hq4]) | (rw [hq5]) | (rw [hq6]))) rfl (by first | rfl | exact congrArg (Value.int .i64) (show (i3 : Int) + 1 = ((i3 + 1 : Nat) : Int) by omega) | (rw [hq4]) | (rw [hq5]) | (rw [hq6]))) rfl (by first | rfl | exact congrArg (Value.int .i64) (show (i3 : Int) + 1 = ((i3 + 1 : Nat) : Int) by omega) | (rw [hq4]) | (rw [hq5]) | (rw [hq6]))) rfl (by first | rfl | exact congrArg (Value.int .i64) (show (i3 : Int) + 1 = ((i3 + 1 : Nat) : Int) by omega) | (rw [hq4]) | (rw [hq5]) | (rw [hq6])), hh.keep (by repeat (first | exact keeps_nil | apply keeps_cons (by repeat (first | exact find_head | apply find_tail | apply find_skip)) (by first  | (rw [hq5]) | (rw [hq6]) | rfl) | exact keeps_self | exact keeps_left | apply keeps_app | apply keeps_mv | apply keeps_skip))⟩
                  · intro hc5
                    try simp only [decide_eq_true_eq, decide_eq_false_iff_not, Bool.not_eq_true', Bool.not_eq_false', Bool.not_eq_true, Bool.not_eq_false, Bool.and_eq_true, Bool.or_eq_true, Bool.and_eq_false_iff, Bool.or_eq_false_iff, Bool.not_not, ne_eq, Int.not_lt, Int.not_le, Decidable.not_not, beq_iff_eq, bne_iff_ne] at hc5
                    have hno : NoM r.ru t.ru s.l := by
                      rintro ⟨_, od, h8, h9⟩
                      rw [hbm, ← hom] at h8
                      exact take_full hI3 (by rw [← hom, List.length_map]; omega) od (by rw [← hom]; exact h8) h9
                    refine wp_exit ?_
                    refine then_exit ?_
                    refine then_exit ?_
                    refine blk_exit ?_
                    refine blk_normal ?_
                    refine then_normal ?_
                    refine c_region ?_
                    first | refine wl (wl_val hl rfl trivial (r_add hl rfl rfl (by simp only [Fits]; omega)) ?_) | refine wl (wl_val hl rfl trivial (r_addW hl rfl rfl) ?_)
                    clear hl a; intro a hl
                    refine wl (wl_val hl rfl trivial (r_move hl rfl) ?_)
                    clear hl a; intro a hl
                    refine w_nil ?_
                    have hl2 := hl.add (t := 2) (hl.add (t := 3) (hl.add (t := 5) (hl.add (t := 6) (hl.add (t := 7) (hl.add (t := 9) (hl.add (t := 61) (hl.add (t := 62) (hl.add (t := 63) (hl.nil) rfl) rfl) rfl) rfl) rfl) rfl) rfl) rfl) rfl; clear hl; have hl := hl2; clear hl2
                    refine then_normal ?_
                    refine ⟨i1 + 1, (by omega), ⟨by omega, take_next hI1 hsn hno⟩, hl.addE (t := 63) (hl.addE (t := 2) (hl.addE (t := 3) (hl.addE (t := 5) (hl.addE (t := 6) (hl.addE (t := 7) (hl.addE (t := 9) (hl.addE (t := 61) (hl.addE (t := 62) (hl.nil) rfl (by first | rfl | exact congrArg (Value.int .i64) (show (i1 : Int) + 1 = ((i1 + 1 : Nat) : Int) by omega) | (rw [hq1]))) rfl (by first | rfl | exact congrArg (Value.int .i64) (show (i1 : Int) + 1 = ((i1 + 1 : Nat) : Int) by omega) | (rw [hq1]))) rfl (by first | rfl | exact congrArg (Value.int .i64) (show (i1 : Int) + 1 = ((i1 + 1 : Nat) : Int) by omega) | (rw [hq1]))) rfl (by first | rfl | exact congrArg (Value.int .i64) (show (i1 : Int) + 1 = ((i1 + 1 : Nat) : Int) by omega) | (rw [hq1]))) rfl (by first | rfl | exact congrArg (Value.int .i64) (show (i1 : Int) + 1 = ((i1 + 1 : Nat) : Int) by omega) | (rw [hq1]))) rfl (by first | rfl | exact congrArg (Value.int .i64) (show (i1 : Int) + 1 = ((i1 + 1 : Nat) : Int) by omega) | (rw [hq1]))) rfl (by first | rfl | exact congrArg (Value.int .i64) (show (i1 : Int) + 1 = ((i1 + 1 : Nat) : Int) by omega) | (rw [hq1]))) rfl (by first | rfl | exact congrArg (Value.int .i64) (show (i1 : Int) + 1 = ((i1 + 1 : Nat) : Int) by omega) | (rw [hq1]))) rfl (by first | rfl | exact congrArg (Value.int .i64) (show (i1 : Int) + 1 = ((i1 + 1 : Nat) : Int) by omega) | (rw [hq1])), hh.keep (by repeat (first | exact keeps_nil | apply keeps_cons (by repeat (first | exact find_head | apply find_tail | apply find_skip)) (by first  | rfl) | exact keeps_self | exact keeps_left | apply keeps_app | apply keeps_mv | apply keeps_skip))⟩
          · intro hc2
            try simp only [decide_eq_true_eq, decide_eq_false_iff_not, Bool.not_eq_true', Bool.not_eq_false', Bool.not_eq_true, Bool.not_eq_false, Bool.and_eq_true, Bool.or_eq_true, Bool.and_eq_false_iff, Bool.or_eq_false_iff, Bool.not_not, ne_eq, Int.not_lt, Int.not_le, Decidable.not_not, beq_iff_eq, bne_iff_ne] at hc2
            have hi1e : i1 = qs.length := by omega
            refine wp_exit ?_
            refine then_exit ?_
            refine then_exit ?_
            refine blk_exit ?_
            refine then_normal ?_
            refine c_seq ?_
            refine c_region ?_
            refine wl (wl_val hl rfl trivial (r_assign hl rfl) ?_)
            clear hl a; intro a hl
            refine w_nil ?_
            have hl2 := hl.add (t := 4) (hl.nil) rfl; clear hl; have hl := hl2; clear hl2
            refine then_normal ?_
            refine wp_ret ?_
            refine f_ret1 (F' := []) hl hh rfl rfl (by repeat (first | exact keeps_nil | apply keeps_cons (by repeat (first | exact find_head | apply find_tail | apply find_skip)) (by first  | rfl) | exact keeps_self | exact keeps_left | apply keeps_app | apply keeps_mv | apply keeps_skip)) ?_
            exact ⟨false, rfl, ⟨fun h9 => (by cases h9), fun ⟨_, pr, h7, h8⟩ => absurd h8 (take_full hI1 (by rw [← hqm, List.length_map]; omega) pr h7)⟩, rfl⟩
end Go.Proofs.Qxb6500915aDoor

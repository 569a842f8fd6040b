import Derived.Test.Qxb6500915aGreatDoorA9
import Derived.Test.Qxb6500915aGreatDoorClr
namespace Go.Proofs.Qxb6500915aGreatDoor
open Go.Eng
set_option linter.unusedVariables false
set_option linter.unusedSimpArgs false
theorem slc24 : slcOk Tryz.prog 24 3 = true := by kernel_rfl
theorem app24 : appOk Tryz.prog 24 57 3 64 = true := by kernel_rfl
theorem one24 : oneOk Tryz.prog 24 = true := by kernel_rfl
theorem fld29_0 : fieldOk Tryz.prog 29 0 0 = true := by kernel_rfl
theorem fld29_1 : fieldOk Tryz.prog 29 1 1 = true := by kernel_rfl
theorem fld29_2 : fieldOk Tryz.prog 29 2 2 = true := by kernel_rfl
theorem from_of (b cap q size : Nat) : ∃ od, (cap = q ∨ od = q * size) ∧ (od = 0 ∨ od = q * size) ∧ (if cap = q then some (⟨b, 0, none⟩ : Addr) else some ⟨b, 0 + q * size, none⟩) = some ⟨b, od, none⟩ := by
  by_cases h : cap = q
  · exact ⟨0, .inl h, .inl rfl, by rw [if_pos h]⟩
  · exact ⟨q * size, .inr rfl, .inr rfl, by rw [if_neg h, Nat.zero_add]⟩
theorem fl_take_one {α : Type} {f : α → List Value} {s : Nat} (hs : ∀ a, (f a).length = s) (h1 : ∀ a, (f a).all (·.oneCell') = true) (l : List α) (junk : List Value) (o k : Nat) (h : o + k ≤ l.length * s) : (((fl f l ++ junk).drop o).take k).all (·.oneCell') = true := by
  rw [List.all_eq_true]
  intro v hv
  have hl := fl_len hs l
  have : v ∈ ((fl f l).drop o).take k := by
    rw [List.drop_append_of_le_length (by omega), List.take_append_of_le_length (by rw [List.length_drop]; omega)] at hv
    exact hv
  exact List.all_eq_true.1 (fl_all h1 l) v (List.mem_of_mem_drop (List.mem_of_mem_take this))
/-- rules within the caps -/
structure Good (n1 n2 n3 : Nat) (rs : List RV) : Prop where
  len : rs.length ≤ n1
  ok : ∀ r, r ∈ rs → r.ok
  bd : ∀ r, r ∈ rs → r.ls.length ≤ n2
  vs : ∀ r, r ∈ rs → (vars r.ru).length ≤ n3
theorem Good.snoc {n1 n2 n3 : Nat} {rs : List RV} (h : Good n1 n2 n3 rs) {r : RV} (hr : r.ok) (h1 : rs.length < n1) (h2 : r.ls.length ≤ n2) (h3 : (vars r.ru).length ≤ n3) : Good n1 n2 n3 (rs ++ [r]) where
  len := by rw [List.length_append, List.length_singleton]; omega
  ok := by
    intro x hx; rcases List.mem_append.1 hx with hx | hx
    · exact h.ok x hx
    · rw [List.mem_singleton.1 hx]; exact hr
  bd := by
    intro x hx; rcases List.mem_append.1 hx with hx | hx
    · exact h.bd x hx
    · rw [List.mem_singleton.1 hx]; exact h2
  vs := by
    intro x hx; rcases List.mem_append.1 hx with hx | hx
    · exact h.vs x hx
    · rw [List.mem_singleton.1 hx]; exact h3
theorem Good.sub {n1 n2 n3 : Nat} {rs rs' : List RV} (h : Good n1 n2 n3 rs) (hs : rs'.Sublist rs) : Good n1 n2 n3 rs' :=
  ⟨Nat.le_trans hs.length_le h.len, fun r hr => h.ok r (hs.subset hr), fun r hr => h.bd r (hs.subset hr), fun r hr => h.vs r (hs.subset hr)⟩
theorem rE_snoc (rs : List RV) (r : RV) : (rs ++ [r]).flatMap RV.E = rs.flatMap RV.E ++ r.E := by
  rw [List.flatMap_append]; simp
theorem fl_c3 (rs : List RV) (r : RV) : fl RV.c3 (rs ++ [r]) = fl RV.c3 rs ++ [.string r.p, .slice r.hp r.a.length r.hc, .slice r.bp r.ls.length r.bc] := by
  rw [fl_app, fl_sing]; rfl
theorem last_of {α : Type} {l : List α} (h : 0 < l.length) : ∃ l0 x, l = l0 ++ [x] := by
  rcases List.eq_nil_or_concat l with h0 | ⟨l0, x, h0⟩
  · rw [h0] at h; exact absurd h (Nat.lt_irrefl _)
  · exact ⟨l0, x, by rw [h0, List.concat_eq_append]⟩
theorem row_less {p : Option Addr} {n c s : Nat} {xs ys : List Value} {T : TypeId} {E : List (Nat × Obj)} (h : Row (.slice p (n + 1) c) (n + 1) (xs ++ ys) s T E) (hx : xs.length = n * s) : Row (.slice p n c) n xs s T E := by
  obtain ⟨b, junk, rfl, h1, h2, rfl⟩ := row_pos h (Nat.succ_pos _)
  exact .inr ⟨b, c, ys ++ junk, rfl, hx, by rw [← List.append_assoc]; exact h1, by omega, by rw [← List.append_assoc]⟩
def RV.grow (r : RV) (y : LV) (p : Option Addr) (c : Nat) (E : List (Nat × Obj)) : RV := ⟨r.p, r.a, r.hp, r.hc, r.hE, r.ls ++ [y], p, c, E⟩
def RV.cut (r : RV) (p : Option Addr) (c : Nat) (E : List (Nat × Obj)) : RV := ⟨r.p, r.a, r.hp, r.hc, r.hE, r.ls, p, c, E⟩
theorem grow_of {r : RV} (hr : r.ok) {y : LV} (hy : y.ok) {p : Option Addr} {c : Nat} {E : List (Nat × Obj)} (h : Row (.slice p (r.ls.length + 1) c) (r.ls.length + 1) (fl LV.c4 r.ls ++ [.int .u8 y.l.k, .int .u8 y.l.o, .string y.l.p, .slice y.p y.l.a.length y.c]) 4 48 E) (hl : r.ls.length < 65536) :
    ∃ q : RV, q.ok ∧ q.c3 = [.string r.p, .slice r.hp r.a.length r.hc, .slice p (r.ls.length + 1) c] ∧ q.E = r.hE ++ (E ++ (r.ls.flatMap LV.E ++ y.E)) ∧ q.ls.length = r.ls.length + 1 ∧
      ∃ u : RV, u.ok ∧ u.c3 = [.string q.p, .slice q.hp q.a.length q.hc, .slice q.bp r.ls.length q.bc] ∧ u.E = r.hE ++ (E ++ r.ls.flatMap LV.E) ∧ u.ls.length = r.ls.length ∧ u.ru = r.ru := by
  refine ⟨r.grow y p c E, ⟨hr.hd, ?_, ok_snoc hr.ls hy, ?_, hr.p⟩, ?_, ?_, ?_, r.cut p c E, ⟨hr.hd, ?_, hr.ls, hr.len, hr.p⟩, rfl, rfl, rfl, rfl⟩
  · show Row (.slice p (r.ls ++ [y]).length c) (r.ls ++ [y]).length (fl LV.c4 (r.ls ++ [y])) 4 48 E
    rw [List.length_append, fl_c4]; exact h
  · show (r.ls ++ [y]).length ≤ 65536
    rw [List.length_append, List.length_singleton]; omega
  · show [_, _, Value.slice p (r.ls ++ [y]).length c] = _
    rw [List.length_append]; rfl
  · show r.hE ++ (E ++ (r.ls ++ [y]).flatMap LV.E) = _
    rw [fm_snoc]
  · show (r.ls ++ [y]).length = _
    rw [List.length_append]; rfl
  · exact row_less h (by rw [fl_len c4_len])
theorem set_last {α : Type} (l : List α) (x y : α) : (l ++ [x]).set l.length y = l ++ [y] := by
  rw [List.set_append_right _ _ (Nat.le_refl _), Nat.sub_self]; rfl
theorem get_last {α : Type} (l : List α) (x : α) : (l ++ [x])[l.length]? = some x := by
  rw [List.getElem?_append_right (Nat.le_refl _), Nat.sub_self]; rfl
theorem Good.last {n1 n2 n3 : Nat} {rs : List RV} {r q : RV} (h : Good n1 n2 n3 (rs ++ [r])) (hq : q.ok) (h2 : q.ls.length ≤ n2) (h3 : (vars q.ru).length ≤ n3) : Good n1 n2 n3 (rs ++ [q]) := by
  refine (h.sub (List.sublist_append_left rs [r])).snoc hq ?_ h2 h3
  have := h.len; rw [List.length_append, List.length_singleton] at this; omega
theorem row_set {α : Type} {f : α → List Value} {s : Nat} {T : TypeId} (hs : ∀ a, (f a).length = s) {l l' : List α} {b c : Nat} {junk : List Value} (hl : l'.length = l.length) (h1 : (fl f l ++ junk).length = c * s) (h2 : l.length ≤ c) : Row (.slice (some ⟨b, 0, none⟩) l'.length c) l'.length (fl f l') s T [(b, C (fl f l' ++ junk) T)] :=
  .inr ⟨b, c, junk, rfl, by rw [fl_len hs], by rw [← h1, List.length_append, List.length_append, fl_len hs, fl_len hs, hl], by omega, rfl⟩


set_option maxHeartbeats 2000000 in
theorem del_spec (l : List RV) (p : Option Addr) (c : Nat) (E : List (Nat × Obj)) (hR : Row (.slice p l.length c) l.length (fl RV.c3 l) 3 57 E) (hc9 : l.length ≤ 1000000000) (i j : Nat) (hij : i < j) (hj : j ≤ l.length) : Sp Tryz.prog 19 #[.slice p l.length c, .int .i64 (i : Int), .int .i64 (j : Int)] E (fun v F' => Row v (l.take i ++ l.drop j).length (fl RV.c3 (l.take i ++ l.drop j)) 3 57 F') := by
  refine f_enter (args := [.slice p l.length c, .int .i64 (i : Int), .int .i64 (j : Int)]) Tryz.func19 rfl Tryz.ntmps19 rfl ?_
  intro w0 w a hpre hl hh
  obtain ⟨b, junk, rfl, hjl, hjc, rfl⟩ := row_pos hR (by omega)
  have hll : (l.take i ++ l.drop j).length = i + (l.length - j) := by rw [List.length_append, List.length_take, List.length_drop]; omega
  simp only [slotsFrom, Nat.reduceAdd] at hl
  refine c_seq ?_
  refine c_region ?_
  refine wl (wl_val hl rfl trivial (r_assign hl rfl) ?_)
  clear hl a; intro a hl
  refine w_nil ?_
  have hl2 := hl.add (t := 0) (hl.add (t := 1) (hl.add (t := 2) (hl.nil) rfl) rfl) rfl; clear hl; have hl := hl2; clear hl2
  refine then_normal ?_
  refine c_seq ?_
  refine c_region ?_
  refine wl (wl_val hl rfl trivial (r_move hl rfl) ?_)
  clear hl a; intro a hl
  refine wl (wl_val hl rfl trivial (r_move hl rfl) ?_)
  clear hl a; intro a hl
  refine wl (wl_val hl rfl trivial (r_move hl rfl) ?_)
  clear hl a; intro a hl
  refine wl (wl_val hl rfl trivial (r_move hl rfl) ?_)
  clear hl a; intro a hl
  refine wl (wl_val hl rfl trivial (r_lenS hl rfl slc24) ?_)
  clear hl a; intro a hl
  refine wl (w_slice3 hl rfl trivial slc24 rfl rfl rfl rfl (by omega) ?_)
  clear hl a; intro p13 a hl
  refine w_nil ?_
  have hl2 := hl.add (t := 0) (hl.add (t := 1) (hl.add (t := 2) (hl.nil) rfl) rfl) rfl; clear hl; have hl := hl2; clear hl2
  refine then_normal ?_
  refine c_seq ?_
  refine c_seq ?_
  refine c_region ?_
  refine wl (wl_val hl rfl trivial (r_move hl rfl) ?_)
  clear hl a; intro a hl
  refine wl (wl_val hl rfl trivial (r_move hl rfl) ?_)
  clear hl a; intro a hl
  refine wl (wl_val hl rfl trivial (r_eql hl rfl rfl) ?_)
  clear hl a; intro a hl
  refine w_nil ?_
  have hl2 := hl.add (t := 0) (hl.add (t := 1) (hl.add (t := 2) (hl.add (t := 16) (hl.nil) rfl) rfl) rfl) rfl; clear hl; have hl := hl2; clear hl2
  refine then_normal ?_
  refine c_cond hl rfl ?_ ?_
  · intro hc0
    try simp only [decide_eq_true_eq, decide_eq_false_iff_not, Bool.not_eq_true', Bool.not_eq_false', Bool.not_eq_true, Bool.not_eq_false, Bool.and_eq_true, Bool.or_eq_true, Bool.and_eq_false_iff, Bool.or_eq_false_iff, Bool.not_not, ne_eq, Int.not_lt, Int.not_le, Decidable.not_not, beq_iff_eq, bne_iff_ne] at hc0
    exfalso; first | contradiction | omega
  · intro hc0
    try simp only [decide_eq_true_eq, decide_eq_false_iff_not, Bool.not_eq_true', Bool.not_eq_false', Bool.not_eq_true, Bool.not_eq_false, Bool.and_eq_true, Bool.or_eq_true, Bool.and_eq_false_iff, Bool.or_eq_false_iff, Bool.not_not, ne_eq, Int.not_lt, Int.not_le, Decidable.not_not, beq_iff_eq, bne_iff_ne] at hc0
    refine wp_skip ?_
    refine then_normal ?_
    refine c_seq ?_
    refine c_region ?_
    refine wl (wl_val hl rfl trivial (r_move hl rfl) ?_)
    clear hl a; intro a hl
    refine wl (wl_val hl rfl trivial (r_lenS hl rfl slc24) ?_)
    clear hl a; intro a hl
    refine wl (wl_val hl rfl trivial (r_assign hl rfl) ?_)
    clear hl a; intro a hl
    refine w_nil ?_
    have hl2 := hl.add (t := 0) (hl.add (t := 1) (hl.add (t := 2) (hl.add (t := 7) (hl.nil) rfl) rfl) rfl) rfl; clear hl; have hl := hl2; clear hl2
    refine then_normal ?_
    refine c_seq ?_
    refine c_draw [] [6, 7] mixed hh ?_
    clear hh w; intro w hh
    have hM : Mem [] w := Mem.nil
    refine d_take (i := 0) hl rfl (by kernel_rfl) (by kernel_rfl) (by kernel_rfl) (by kernel_rfl) (by kernel_rfl) rfl trivial (fun _ _ _ h => h) hM (fun w hC => r_move hl rfl) rfl ?_
    clear hl a; intro a hl
    refine d_take (i := 1) hl rfl (by kernel_rfl) (by kernel_rfl) (by kernel_rfl) (by kernel_rfl) (by kernel_rfl) rfl trivial (fun _ _ _ h => h) hM (fun w hC => r_move hl rfl) rfl ?_
    clear hl a; intro a hl
    refine d_take (i := 2) hl rfl (by kernel_rfl) (by kernel_rfl) (by kernel_rfl) (by kernel_rfl) (by kernel_rfl) rfl trivial (fun _ _ _ h => h) hM (fun w hC => r_sliceS01 (by intro q e; first | (cases e; rfl) | (cases e; done) | (cases e; rfl)) hl rfl rfl slc24 (by omega) (by first | (simp only [Int.reduceToNat]; rfl) | exact toNat_add1 _ | exact toNat_add2 _ _ | exact toNat_emod _ _ | exact Int.toNat_natCast _ | rfl)) rfl ?_
    clear hl a; intro a hl
    refine d_take (i := 3) hl rfl (by kernel_rfl) (by kernel_rfl) (by kernel_rfl) (by kernel_rfl) (by kernel_rfl) rfl trivial (fun _ _ _ h => h) hM (fun w hC => r_move hl rfl) rfl ?_
    clear hl a; intro a hl
    refine d_take (i := 4) hl rfl (by kernel_rfl) (by kernel_rfl) (by kernel_rfl) (by kernel_rfl) (by kernel_rfl) rfl trivial (fun _ _ _ h => h) hM (fun w hC => r_move hl rfl) rfl ?_
    clear hl a; intro a hl
    refine d_take (i := 5) hl rfl (by kernel_rfl) (by kernel_rfl) (by kernel_rfl) (by kernel_rfl) (by kernel_rfl) rfl trivial (fun _ _ _ h => h) hM (fun w hC => r_sliceS10x hl rfl rfl slc24 (by omega) (by first | (simp only [Int.reduceToNat]; rfl) | exact toNat_add1 _ | exact toNat_add2 _ _ | exact toNat_emod _ _ | exact Int.toNat_natCast _ | rfl)) rfl ?_
    clear hl a; intro a hl
    obtain ⟨o2, ho1, ho2, hodv⟩ := from_of b c j 3
    rw [hodv] at hl
    obtain ⟨m, hmv⟩ : ∃ m, m = l.length - j := ⟨_, rfl⟩
    rw [← hmv] at hl
    refine d_one (i := 6) (by kernel_rfl) rfl ?_
    try clear hM
    refine id (w_appendCut hl hh rfl trivial app24 rfl rfl (by repeat (first | exact find_head | apply find_tail)) (by omega) hjl (by rw [hjl]; omega) (fl_take_one c3_len c3_one _ _ _ _ (by omega)) rfl ?_)
    clear hl hh a w; intro a w hl hh
    refine d_step (fun h => absurd h (by decide)) ?_
    refine d_takeL (i := 7) hl rfl (by kernel_rfl) (by kernel_rfl) (by kernel_rfl) (by kernel_rfl) (by kernel_rfl) rfl trivial (fun _ _ _ h => h) (fun w => r_assign hl rfl) rfl ?_
    clear hl a; intro a hl
    refine d_done (by kernel_rfl) ?_
    try clear hM
    have hl2 := hl.add (t := 0) (hl.add (t := 7) (hl.nil) rfl) rfl; clear hl; have hl := hl2; clear hl2
    obtain ⟨junk2, hj2, hjl2⟩ := del_setG c3_len l junk i j o2 m (by omega) hj hmv (by omega)
    rw [hj2] at hh
    rw [hjl] at hjl2
    have hAl : (fl RV.c3 (l.take i ++ l.drop j)).length = (i + m) * 3 := by rw [fl_len c3_len, hll, hmv]
    refine then_normal ?_
    refine c_seq ?_
    refine c_region ?_
    refine wl (wl_val hl rfl trivial (r_move hl rfl) ?_)
    clear hl a; intro a hl
    refine wl (wl_val hl rfl trivial (r_move hl rfl) ?_)
    clear hl a; intro a hl
    refine wl (wl_val hl rfl trivial (r_lenS hl rfl slc24) ?_)
    clear hl a; intro a hl
    refine wl (wl_val hl rfl trivial (r_move hl rfl) ?_)
    clear hl a; intro a hl
    refine wl (wl_val hl rfl trivial (r_sliceS11 hl rfl rfl rfl slc24 (by omega) (by first | (simp only [Int.reduceToNat]; rfl) | exact toNat_add1 _ | exact toNat_add2 _ _ | exact toNat_emod _ _ | exact Int.toNat_natCast _ | rfl) (by first | (simp only [Int.reduceToNat]; rfl) | exact toNat_add1 _ | exact toNat_add2 _ _ | exact toNat_emod _ _ | exact Int.toNat_natCast _ | rfl)) ?_)
    clear hl a; intro a hl
    refine wl (w_clear hl hh trivial app24 zero57 (by rfl) rfl (by repeat (first | exact find_head | apply find_tail)) (by rw [hjl2]; omega) ?_)
    clear hh w; intro zs w hzs hh
    refine w_nil ?_
    have hl2 := hl.add (t := 0) (hl.nil) rfl; clear hl; have hl := hl2; clear hl2
    obtain ⟨J9, hJ9, hJl9⟩ := clr_set (A := fl RV.c3 (l.take i ++ l.drop j)) (J := junk2) (zs := zs) (o := 0 + (i + m) * 3) (by omega) (by rw [List.length_append, hAl] at hjl2; rw [hzs]; omega)
    rw [hJ9] at hh
    refine then_normal ?_
    refine c_seq ?_
    refine c_region ?_
    refine wl (wl_val hl rfl trivial (r_move hl rfl) ?_)
    clear hl a; intro a hl
    refine wl (wl_val hl rfl trivial (r_assign hl rfl) ?_)
    clear hl a; intro a hl
    refine w_nil ?_
    have hl2 := hl.add (t := 6) (hl.nil) rfl; clear hl; have hl := hl2; clear hl2
    refine then_normal ?_
    refine wp_ret ?_
    refine f_ret1 (F' := [(b, C (fl RV.c3 (l.take i ++ l.drop j) ++ J9) 57)]) hl hh rfl rfl (by repeat (first | exact keeps_nil | apply keeps_cons (by repeat (first | exact find_head | apply find_tail)) (by first  | rfl) | exact keeps_self | apply keeps_mv)) ?_
    rw [hll, ← hmv]
    exact .inr ⟨b, c, J9, rfl, hAl, by rw [List.length_append, hAl, hJl9]; rw [List.length_append, hAl] at hjl2; omega, by omega, rfl⟩

attribute [local irreducible] RV.E

set_option maxHeartbeats 4000000 in
theorem addR_spec (kr kc n1 n2 n3 : Nat) (hn : n1 ≤ 1000 ∧ n2 ≤ 1000 ∧ n3 ≤ 1000) (rs : List RV) (hg : Good n1 n2 n3 rs) (rp : Option Addr) (rc : Nat) (RE : List (Nat × Obj)) (hR : Row (.slice rp rs.length rc) rs.length (fl RV.c3 rs) 3 57 RE) (r : RV) (hr : r.ok) : Sp Tryz.prog 11 #[.agg ⟨[.string r.p, .slice r.hp r.a.length r.hc, .slice r.bp r.ls.length r.bc]⟩, .pointer (some ⟨kr, 0, none⟩), .pointer (some ⟨kc, 0, none⟩)] ((kr, C [.slice rp (rs).length rc] 24) :: (kc, C [.int .i64 (n1 : Int), .int .i64 (n2 : Int), .int .i64 (n3 : Int)] 29) :: (RE ++ (rs.flatMap RV.E ++ r.E))) (fun v F' => v = .tuple #[] ∧ ∃ rs' rp' rc' RE', Good n1 n2 n3 rs' ∧ Row (.slice rp' rs'.length rc') rs'.length (fl RV.c3 rs') 3 57 RE' ∧ F' = (kr, C [.slice rp' (rs').length rc'] 24) :: (kc, C [.int .i64 (n1 : Int), .int .i64 (n2 : Int), .int .i64 (n3 : Int)] 29) :: (RE' ++ rs'.flatMap RV.E)) := by
  refine f_enter (args := [.agg ⟨[.string r.p, .slice r.hp r.a.length r.hc, .slice r.bp r.ls.length r.bc]⟩, .pointer (some ⟨kr, 0, none⟩), .pointer (some ⟨kc, 0, none⟩)]) Tryz.func11 rfl Tryz.ntmps11 rfl ?_
  intro w0 w a hpre hl hh
  have hrl := hr.len; have hgl := hg.len; have hvb := vars_bd hr
  simp only [slotsFrom, Nat.reduceAdd] at hl
  refine c_seq ?_
  refine c_region ?_
  refine wl (w_box hl hh rfl trivial rfl rfl ?_)
  clear hl hh a w; intro k3 a w hl hh
  refine w_nil ?_
  have hl2 := hl.add (t := 1) (hl.add (t := 2) (hl.add (t := 3) (hl.nil) rfl) rfl) rfl; clear hl; have hl := hl2; clear hl2
  refine then_normal ?_
  refine c_seq ?_
  refine c_draw [(kr, C [.slice rp (rs).length rc] 24), (kc, C [.int .i64 (n1 : Int), .int .i64 (n2 : Int), .int .i64 (n3 : Int)] 29), (k3, C [.string r.p, .slice r.hp r.a.length r.hc, .slice r.bp r.ls.length r.bc] 57)] [] mixed hh ?_
  clear hh w; intro w hh
  have hM : Mem [(kr, C [.slice rp (rs).length rc] 24), (kc, C [.int .i64 (n1 : Int), .int .i64 (n2 : Int), .int .i64 (n3 : Int)] 29), (k3, C [.string r.p, .slice r.hp r.a.length r.hc, .slice r.bp r.ls.length r.bc] 57)] w := (memK hh (by repeat (first | exact keeps_nil | apply keeps_cons (by repeat (first | exact find_head | apply find_tail | apply find_skip)) (by first  | rfl) | exact keeps_self | exact keeps_left | apply keeps_app | apply keeps_mv | apply keeps_skip)))
  refine d_take (i := 0) hl rfl (by kernel_rfl) (by kernel_rfl) (by kernel_rfl) (by kernel_rfl) (by kernel_rfl) rfl trivial (fun _ _ _ h => h) hM (fun w hC => r_loadC hl rfl one24 hC (by repeat (first | exact find_head | apply find_tail | apply find_skip)) (by first | rfl)) rfl ?_
  clear hl a; intro a hl
  refine d_take (i := 1) hl rfl (by kernel_rfl) (by kernel_rfl) (by kernel_rfl) (by kernel_rfl) (by kernel_rfl) rfl trivial (fun _ _ _ h => h) hM (fun w hC => r_lenS hl rfl slc24) rfl ?_
  clear hl a; intro a hl
  refine d_take (i := 2) hl rfl (by kernel_rfl) (by kernel_rfl) (by kernel_rfl) (by kernel_rfl) (by kernel_rfl) rfl trivial (fun _ _ _ h => h) hM (fun w hC => r_field hl rfl fld29_0) rfl ?_
  clear hl a; intro a hl
  refine d_take (i := 3) hl rfl (by kernel_rfl) (by kernel_rfl) (by kernel_rfl) (by kernel_rfl) (by kernel_rfl) rfl trivial (fun _ _ _ h => h) hM (fun w hC => r_loadC hl rfl one3 hC (by repeat (first | exact find_head | apply find_tail | apply find_skip)) (by first | rfl)) rfl ?_
  clear hl a; intro a hl
  refine d_take (i := 4) hl rfl (by kernel_rfl) (by kernel_rfl) (by kernel_rfl) (by kernel_rfl) (by kernel_rfl) rfl trivial (fun _ _ _ h => h) hM (fun w hC => r_lss hl rfl rfl) rfl ?_
  clear hl a; intro a hl
  refine d_take (i := 5) hl rfl (by kernel_rfl) (by kernel_rfl) (by kernel_rfl) (by kernel_rfl) (by kernel_rfl) rfl trivial (fun _ _ _ h => h) hM (fun w hC => r_move hl rfl) rfl ?_
  clear hl a; intro a hl
  refine sl_split (t := 9) hl rfl ?_ ?_
  · intro hg1; clear hl; intro hl
    try simp only [decide_eq_true_eq, decide_eq_false_iff_not, Bool.not_eq_true', Bool.not_eq_false', Bool.not_eq_true, Bool.not_eq_false, Bool.and_eq_true, Bool.or_eq_true, Bool.and_eq_false_iff, Bool.or_eq_false_iff, Bool.not_not, ne_eq, Int.not_lt, Int.not_le, Decidable.not_not, beq_iff_eq, bne_iff_ne] at hg1
    refine d_take (i := 6) hl rfl (by kernel_rfl) (by kernel_rfl) (by kernel_rfl) (by kernel_rfl) (by kernel_rfl) rfl ⟨_, _, rfl, rfl, rfl⟩ (fun _ _ _ h => h) hM (fun w hC => r_field hl rfl fld57_1) rfl ?_
    clear hl a; intro a hl
    refine d_take (i := 7) hl rfl (by kernel_rfl) (by kernel_rfl) (by kernel_rfl) (by kernel_rfl) (by kernel_rfl) rfl ⟨_, _, rfl, rfl, rfl⟩ (fun _ _ _ h => h) hM (fun w hC => r_loadC hl rfl one55 hC (by repeat (first | exact find_head | apply find_tail | apply find_skip)) (by first | rfl)) rfl ?_
    clear hl a; intro a hl
    refine d_take (i := 8) hl rfl (by kernel_rfl) (by kernel_rfl) (by kernel_rfl) (by kernel_rfl) (by kernel_rfl) rfl ⟨_, _, rfl, rfl, rfl⟩ (fun _ _ _ h => h) hM (fun w hC => r_lenS hl rfl slc55) rfl ?_
    clear hl a; intro a hl
    refine d_take (i := 9) hl rfl (by kernel_rfl) (by kernel_rfl) (by kernel_rfl) (by kernel_rfl) (by kernel_rfl) rfl ⟨_, _, rfl, rfl, rfl⟩ (fun _ _ _ h => h) hM (fun w hC => r_field hl rfl fld29_1) rfl ?_
    clear hl a; intro a hl
    refine d_take (i := 10) hl rfl (by kernel_rfl) (by kernel_rfl) (by kernel_rfl) (by kernel_rfl) (by kernel_rfl) rfl ⟨_, _, rfl, rfl, rfl⟩ (fun _ _ _ h => h) hM (fun w hC => r_loadC hl rfl one3 hC (by repeat (first | exact find_head | apply find_tail | apply find_skip)) (by first | rfl)) rfl ?_
    clear hl a; intro a hl
    refine d_take (i := 11) hl rfl (by kernel_rfl) (by kernel_rfl) (by kernel_rfl) (by kernel_rfl) (by kernel_rfl) rfl ⟨_, _, rfl, rfl, rfl⟩ (fun _ _ _ h => h) hM (fun w hC => r_leq hl rfl rfl) rfl ?_
    clear hl a; intro a hl
    refine d_take (i := 12) hl rfl (by kernel_rfl) (by kernel_rfl) (by kernel_rfl) (by kernel_rfl) (by kernel_rfl) rfl trivial (fun _ _ _ h => h) hM (fun w hC => r_pickT hl rfl rfl) rfl ?_
    clear hl a; intro a hl
    refine d_take (i := 13) hl rfl (by kernel_rfl) (by kernel_rfl) (by kernel_rfl) (by kernel_rfl) (by kernel_rfl) rfl trivial (fun _ _ _ h => h) hM (fun w hC => r_move hl rfl) rfl ?_
    clear hl a; intro a hl
    refine sl_split (t := 17) hl rfl ?_ ?_
    · intro hg2; clear hl; intro hl
      try simp only [decide_eq_true_eq, decide_eq_false_iff_not, Bool.not_eq_true', Bool.not_eq_false', Bool.not_eq_true, Bool.not_eq_false, Bool.and_eq_true, Bool.or_eq_true, Bool.and_eq_false_iff, Bool.or_eq_false_iff, Bool.not_not, ne_eq, Int.not_lt, Int.not_le, Decidable.not_not, beq_iff_eq, bne_iff_ne] at hg2
      refine d_take (i := 14) hl rfl (by kernel_rfl) (by kernel_rfl) (by kernel_rfl) (by kernel_rfl) (by kernel_rfl) rfl ⟨_, _, rfl, rfl, rfl⟩ (fun _ _ _ h => h) hM (fun w hC => r_loadCA hl rfl agg57 hC (by repeat (first | exact find_head | apply find_tail | apply find_skip)) (by first | (simp only [List.getElem?_cons_zero, List.getElem?_cons_succ, Value.cells, List.take_zero, List.take_succ_cons, List.take_nil, List.drop_zero, List.drop_succ_cons, List.drop_nil, List.length_cons, List.length_nil, List.cons_append, List.nil_append, List.append_nil, Nat.zero_add, Nat.add_zero, Nat.reduceAdd, Nat.reduceBEq, Nat.reduceEqDiff, Nat.ble, BEq.rfl, Bool.and_true, Bool.and_self, cond_true, beq_self_eq_true]; rfl)) (by first | rfl | (simp; done))) rfl ?_
      clear hl a; intro a hl
      refine d_take (i := 17) hl rfl (by kernel_rfl) (by kernel_rfl) (by kernel_rfl) (by kernel_rfl) (by kernel_rfl) rfl ⟨_, _, rfl, rfl, rfl⟩ (fun _ _ _ h => h) hM (fun w hC => r_field hl rfl fld29_2) rfl ?_
      clear hl a; intro a hl
      refine d_take (i := 18) hl rfl (by kernel_rfl) (by kernel_rfl) (by kernel_rfl) (by kernel_rfl) (by kernel_rfl) rfl ⟨_, _, rfl, rfl, rfl⟩ (fun _ _ _ h => h) hM (fun w hC => r_loadC hl rfl one3 hC (by repeat (first | exact find_head | apply find_tail | apply find_skip)) (by first | rfl)) rfl ?_
      clear hl a; intro a hl
      refine d_one (i := 15) (by kernel_rfl) rfl ?_
      try clear hM
      refine id (w_call hl hh rfl ⟨_, _, rfl, rfl, rfl⟩ rfl cal12 rfl (vars_spec r hr) (by repeat (first | exact keeps_nil | apply keeps_cons (by repeat (first | exact find_head | apply find_tail | apply find_skip)) (by first  | rfl) | exact keeps_self | exact keeps_left | apply keeps_app | apply keeps_mv | apply keeps_skip)) (fun b o m => hh.mem b o (by simp [m])) ?_)
      clear hl hh a w; intro vc Fc a w hR hl hh
      obtain ⟨vp, vc, rfl, hRv⟩ := hR
      try simp only [List.cons_append, List.nil_append, List.append_assoc, List.append_nil] at hh
      generalize Fc = Ev at hh hRv
      replace hh := hh.comm
      simp only [List.cons_append, List.nil_append, List.append_nil, List.append_assoc] at hh
      have hM : Mem [(kr, C [.slice rp (rs).length rc] 24), (kc, C [.int .i64 (n1 : Int), .int .i64 (n2 : Int), .int .i64 (n3 : Int)] 29), (k3, C [.string r.p, .slice r.hp r.a.length r.hc, .slice r.bp r.ls.length r.bc] 57)] w := (memK hh (by repeat (first | exact keeps_nil | apply keeps_cons (by repeat (first | exact find_head | apply find_tail | apply find_skip)) (by first  | rfl) | exact keeps_self | exact keeps_left | apply keeps_app | apply keeps_mv | apply keeps_skip)))
      refine d_step (fun _ => hM) ?_
      refine d_take (i := 16) hl rfl (by kernel_rfl) (by kernel_rfl) (by kernel_rfl) (by kernel_rfl) (by kernel_rfl) rfl ⟨_, _, rfl, rfl, rfl⟩ (fun _ _ _ h => h) hM (fun w hC => r_lenS hl rfl slc58) rfl ?_
      clear hl a; intro a hl
      refine d_take (i := 19) hl rfl (by kernel_rfl) (by kernel_rfl) (by kernel_rfl) (by kernel_rfl) (by kernel_rfl) rfl ⟨_, _, rfl, rfl, rfl⟩ (fun _ _ _ h => h) hM (fun w hC => r_leq hl rfl rfl) rfl ?_
      clear hl a; intro a hl
      refine d_take (i := 20) hl rfl (by kernel_rfl) (by kernel_rfl) (by kernel_rfl) (by kernel_rfl) (by kernel_rfl) rfl trivial (fun _ _ _ h => h) hM (fun w hC => r_pickT hl rfl rfl) rfl ?_
      clear hl a; intro a hl
      refine d_done (by kernel_rfl) ?_
      try clear hM
      have hl2 := hl.add (t := 1) (hl.add (t := 3) (hl.add (t := 24) (hl.nil) rfl) rfl) rfl; clear hl; have hl := hl2; clear hl2
      refine then_normal ?_
      refine c_cond hl rfl ?_ ?_
      · intro hc0
        try simp only [decide_eq_true_eq, decide_eq_false_iff_not, Bool.not_eq_true', Bool.not_eq_false', Bool.not_eq_true, Bool.not_eq_false, Bool.and_eq_true, Bool.or_eq_true, Bool.and_eq_false_iff, Bool.or_eq_false_iff, Bool.not_not, ne_eq, Int.not_lt, Int.not_le, Decidable.not_not, beq_iff_eq, bne_iff_ne] at hc0
        refine c_region ?_
        refine wl (w_load hl hh rfl trivial one24 rfl (by repeat (first | exact find_head | apply find_tail | apply find_skip)) (by first | rfl) ?_)
        clear hl a; intro a hl
        refine wl (w_loadA hl hh rfl trivial agg57 rfl (by repeat (first | exact find_head | apply find_tail | apply find_skip)) (by first | (simp only [List.getElem?_cons_zero, List.getElem?_cons_succ, Value.cells, List.take_zero, List.take_succ_cons, List.take_nil, List.drop_zero, List.drop_succ_cons, List.drop_nil, List.length_cons, List.length_nil, List.cons_append, List.nil_append, List.append_nil, Nat.zero_add, Nat.add_zero, Nat.reduceAdd, Nat.reduceBEq, Nat.reduceEqDiff, Nat.ble, BEq.rfl, Bool.and_true, Bool.and_self, cond_true, beq_self_eq_true]; rfl)) (by first | rfl | (simp; done)) ?_)
        clear hl a; intro a hl
        refine wl (w_buildSlice hl hh rfl trivial app24 zero57 rfl rfl rfl rfl rfl (by simp only [fillL, arrPl, List.range_succ, List.range_zero, List.map_cons, List.map_nil, List.map_append, List.nil_append, List.replicate_succ, List.replicate_zero, List.flatten_cons, List.flatten_nil, Nat.zero_mul, Nat.mul_one, Nat.one_mul, Nat.reduceMul, setL, List.getElem?_cons_zero, List.getElem?_cons_succ, Value.cells, List.take_zero, List.take_succ_cons, List.take_nil, List.drop_zero, List.drop_succ_cons, List.drop_nil, List.length_cons, List.length_nil, List.cons_append, List.nil_append, List.append_nil, Nat.zero_add, Nat.add_zero, Nat.reduceAdd, Nat.reduceBEq, Nat.reduceEqDiff, Nat.ble, BEq.rfl, Bool.and_true, Bool.and_self, cond_true, beq_self_eq_true]; rfl) ?_)
        clear hl hh a w; intro k27 a w hl hh
        refine wl (w_append (news := [.string r.p, .slice r.hp r.a.length r.hc, .slice r.bp r.ls.length r.bc]) hl hh rfl trivial app24 rfl rfl rfl hR (by repeat (first | exact keeps_nil | apply keeps_cons (by repeat (first | exact find_head | apply find_tail | apply find_skip)) (by first  | rfl) | exact keeps_self | exact keeps_left | apply keeps_app | apply keeps_mv | apply keeps_skip)) (hh.mem _ _ (Find.mem (by repeat (first | exact find_head | apply find_tail | apply find_skip)))) rfl rfl rfl (by omega) (by omega) (by omega) (by decide) ?_)
        clear hl hh a w; intro rv2 E2 a w hR2 hl hh
        have hh3 := hh.comm; clear hh; have hh := hh3; clear hh3
        try simp only [List.cons_append, List.nil_append, List.append_assoc, List.append_nil] at hh
        refine wl (w_store hl hh trivial one24 rfl rfl (by repeat (first | exact find_head | apply find_tail | apply find_skip)) (by first | (simp; done) | (simp; omega)) (by first | rfl | assumption | (apply Row.one; assumption)) (by first | (simp only [setL, List.getElem?_cons_zero, List.getElem?_cons_succ, Value.cells, List.take_zero, List.take_succ_cons, List.take_nil, List.drop_zero, List.drop_succ_cons, List.drop_nil, List.length_cons, List.length_nil, List.cons_append, List.nil_append, List.append_nil, Nat.zero_add, Nat.add_zero, Nat.reduceAdd, Nat.reduceBEq, Nat.reduceEqDiff, Nat.ble, BEq.rfl, Bool.and_true, Bool.and_self, cond_true, beq_self_eq_true]; rfl)) ?_)
        clear hh w; intro w hh
        refine w_nil ?_
        have hl2 := hl.nil; clear hl; have hl := hl2; clear hl2
        obtain ⟨p9, c9, hv9⟩ := row_val hR2
        rw [hv9] at hh hR2
        first
        | (refine f_end0 (F' := (kr, C [.slice p9 (rs.length + 1) c9] 24) :: (kc, C [.int .i64 (n1 : Int), .int .i64 (n2 : Int), .int .i64 (n3 : Int)] 29) :: (E2 ++ (rs.flatMap RV.E ++ r.E))) hl hh rfl (by repeat (first | exact keeps_nil | apply keeps_cons (by repeat (first | exact find_head | apply find_tail | apply find_skip)) (by first  | rfl) | exact keeps_self | exact keeps_left | apply keeps_app | apply keeps_mv | apply keeps_skip)) ?_; exact ⟨rfl, rs ++ [r], p9, c9, E2, hg.snoc hr (by omega) (by omega) (by omega), by rw [List.length_append, fl_c3]; exact hR2, by rw [rE_snoc, List.length_append]; rfl⟩)
        | (refine f_end0 (F' := (kr, C [.slice rp (rs).length rc] 24) :: (kc, C [.int .i64 (n1 : Int), .int .i64 (n2 : Int), .int .i64 (n3 : Int)] 29) :: (RE ++ rs.flatMap RV.E)) hl hh rfl (by repeat (first | exact keeps_nil | apply keeps_cons (by repeat (first | exact find_head | apply find_tail | apply find_skip)) (by first  | rfl) | exact keeps_self | exact keeps_left | apply keeps_app | apply keeps_mv | apply keeps_skip)) ?_; exact ⟨rfl, rs, rp, rc, RE, hg, hR, rfl⟩)
      · intro hc0
        try simp only [decide_eq_true_eq, decide_eq_false_iff_not, Bool.not_eq_true', Bool.not_eq_false', Bool.not_eq_true, Bool.not_eq_false, Bool.and_eq_true, Bool.or_eq_true, Bool.and_eq_false_iff, Bool.or_eq_false_iff, Bool.not_not, ne_eq, Int.not_lt, Int.not_le, Decidable.not_not, beq_iff_eq, bne_iff_ne] at hc0
        refine wp_skip ?_
        first
        | (refine f_end0 (F' := (kr, C [.slice p9 (rs.length + 1) c9] 24) :: (kc, C [.int .i64 (n1 : Int), .int .i64 (n2 : Int), .int .i64 (n3 : Int)] 29) :: (E2 ++ (rs.flatMap RV.E ++ r.E))) hl hh rfl (by repeat (first | exact keeps_nil | apply keeps_cons (by repeat (first | exact find_head | apply find_tail | apply find_skip)) (by first  | rfl) | exact keeps_self | exact keeps_left | apply keeps_app | apply keeps_mv | apply keeps_skip)) ?_; exact ⟨rfl, rs ++ [r], p9, c9, E2, hg.snoc hr (by omega) (by omega) (by omega), by rw [List.length_append, fl_c3]; exact hR2, by rw [rE_snoc, List.length_append]; rfl⟩)
        | (refine f_end0 (F' := (kr, C [.slice rp (rs).length rc] 24) :: (kc, C [.int .i64 (n1 : Int), .int .i64 (n2 : Int), .int .i64 (n3 : Int)] 29) :: (RE ++ rs.flatMap RV.E)) hl hh rfl (by repeat (first | exact keeps_nil | apply keeps_cons (by repeat (first | exact find_head | apply find_tail | apply find_skip)) (by first  | rfl) | exact keeps_self | exact keeps_left | apply keeps_app | apply keeps_mv | apply keeps_skip)) ?_; exact ⟨rfl, rs, rp, rc, RE, hg, hR, rfl⟩)
    · intro hg2; clear hl; intro hl
      try simp only [decide_eq_true_eq, decide_eq_false_iff_not, Bool.not_eq_true', Bool.not_eq_false', Bool.not_eq_true, Bool.not_eq_false, Bool.and_eq_true, Bool.or_eq_true, Bool.and_eq_false_iff, Bool.or_eq_false_iff, Bool.not_not, ne_eq, Int.not_lt, Int.not_le, Decidable.not_not, beq_iff_eq, bne_iff_ne] at hg2
      refine d_skip (i := 14) hl rfl (by kernel_rfl) (by kernel_rfl) (by kernel_rfl) (by kernel_rfl) (by kernel_rfl) rfl ⟨_, _, rfl, rfl, rfl⟩ (fun _ _ _ h => h) hM ?_
      clear hl a; intro a hl
      refine d_skip (i := 15) hl rfl (by kernel_rfl) (by kernel_rfl) (by kernel_rfl) (by kernel_rfl) (by kernel_rfl) rfl ⟨_, _, rfl, rfl, rfl⟩ (fun _ _ _ h => h) hM ?_
      clear hl a; intro a hl
      refine d_skip (i := 16) hl rfl (by kernel_rfl) (by kernel_rfl) (by kernel_rfl) (by kernel_rfl) (by kernel_rfl) rfl ⟨_, _, rfl, rfl, rfl⟩ (fun _ _ _ h => h) hM ?_
      clear hl a; intro a hl
      refine d_skip (i := 17) hl rfl (by kernel_rfl) (by kernel_rfl) (by kernel_rfl) (by kernel_rfl) (by kernel_rfl) rfl ⟨_, _, rfl, rfl, rfl⟩ (fun _ _ _ h => h) hM ?_
      clear hl a; intro a hl
      refine d_skip (i := 18) hl rfl (by kernel_rfl) (by kernel_rfl) (by kernel_rfl) (by kernel_rfl) (by kernel_rfl) rfl ⟨_, _, rfl, rfl, rfl⟩ (fun _ _ _ h => h) hM ?_
      clear hl a; intro a hl
      refine d_skip (i := 19) hl rfl (by kernel_rfl) (by kernel_rfl) (by kernel_rfl) (by kernel_rfl) (by kernel_rfl) rfl ⟨_, _, rfl, rfl, rfl⟩ (fun _ _ _ h => h) hM ?_
      clear hl a; intro a hl
      refine d_take (i := 20) hl rfl (by kernel_rfl) (by kernel_rfl) (by kernel_rfl) (by kernel_rfl) (by kernel_rfl) rfl trivial (fun _ _ _ h => h) hM (fun w hC => r_pickF hl rfl rfl) rfl ?_
      clear hl a; intro a hl
      refine d_done (by kernel_rfl) ?_
      try clear hM
      have hl2 := hl.add (t := 1) (hl.add (t := 3) (hl.add (t := 24) (hl.nil) rfl) rfl) rfl; clear hl; have hl := hl2; clear hl2
      refine then_normal ?_
      refine c_condF hl rfl ?_
      refine wp_skip ?_
      first
      | (refine f_end0 (F' := (kr, C [.slice p9 (rs.length + 1) c9] 24) :: (kc, C [.int .i64 (n1 : Int), .int .i64 (n2 : Int), .int .i64 (n3 : Int)] 29) :: (E2 ++ (rs.flatMap RV.E ++ r.E))) hl hh rfl (by repeat (first | exact keeps_nil | apply keeps_cons (by repeat (first | exact find_head | apply find_tail | apply find_skip)) (by first  | rfl) | exact keeps_self | exact keeps_left | apply keeps_app | apply keeps_mv | apply keeps_skip)) ?_; exact ⟨rfl, rs ++ [r], p9, c9, E2, hg.snoc hr (by omega) (by omega) (by omega), by rw [List.length_append, fl_c3]; exact hR2, by rw [rE_snoc, List.length_append]; rfl⟩)
      | (refine f_end0 (F' := (kr, C [.slice rp (rs).length rc] 24) :: (kc, C [.int .i64 (n1 : Int), .int .i64 (n2 : Int), .int .i64 (n3 : Int)] 29) :: (RE ++ rs.flatMap RV.E)) hl hh rfl (by repeat (first | exact keeps_nil | apply keeps_cons (by repeat (first | exact find_head | apply find_tail | apply find_skip)) (by first  | rfl) | exact keeps_self | exact keeps_left | apply keeps_app | apply keeps_mv | apply keeps_skip)) ?_; exact ⟨rfl, rs, rp, rc, RE, hg, hR, rfl⟩)
  · intro hg1; clear hl; intro hl
    try simp only [decide_eq_true_eq, decide_eq_false_iff_not, Bool.not_eq_true', Bool.not_eq_false', Bool.not_eq_true, Bool.not_eq_false, Bool.and_eq_true, Bool.or_eq_true, Bool.and_eq_false_iff, Bool.or_eq_false_iff, Bool.not_not, ne_eq, Int.not_lt, Int.not_le, Decidable.not_not, beq_iff_eq, bne_iff_ne] at hg1
    refine d_skip (i := 6) hl rfl (by kernel_rfl) (by kernel_rfl) (by kernel_rfl) (by kernel_rfl) (by kernel_rfl) rfl ⟨_, _, rfl, rfl, rfl⟩ (fun _ _ _ h => h) hM ?_
    clear hl a; intro a hl
    refine d_skip (i := 7) hl rfl (by kernel_rfl) (by kernel_rfl) (by kernel_rfl) (by kernel_rfl) (by kernel_rfl) rfl ⟨_, _, rfl, rfl, rfl⟩ (fun _ _ _ h => h) hM ?_
    clear hl a; intro a hl
    refine d_skip (i := 8) hl rfl (by kernel_rfl) (by kernel_rfl) (by kernel_rfl) (by kernel_rfl) (by kernel_rfl) rfl ⟨_, _, rfl, rfl, rfl⟩ (fun _ _ _ h => h) hM ?_
    clear hl a; intro a hl
    refine d_skip (i := 9) hl rfl (by kernel_rfl) (by kernel_rfl) (by kernel_rfl) (by kernel_rfl) (by kernel_rfl) rfl ⟨_, _, rfl, rfl, rfl⟩ (fun _ _ _ h => h) hM ?_
    clear hl a; intro a hl
    refine d_skip (i := 10) hl rfl (by kernel_rfl) (by kernel_rfl) (by kernel_rfl) (by kernel_rfl) (by kernel_rfl) rfl ⟨_, _, rfl, rfl, rfl⟩ (fun _ _ _ h => h) hM ?_
    clear hl a; intro a hl
    refine d_skip (i := 11) hl rfl (by kernel_rfl) (by kernel_rfl) (by kernel_rfl) (by kernel_rfl) (by kernel_rfl) rfl ⟨_, _, rfl, rfl, rfl⟩ (fun _ _ _ h => h) hM ?_
    clear hl a; intro a hl
    refine d_take (i := 12) hl rfl (by kernel_rfl) (by kernel_rfl) (by kernel_rfl) (by kernel_rfl) (by kernel_rfl) rfl trivial (fun _ _ _ h => h) hM (fun w hC => r_pickF hl rfl rfl) rfl ?_
    clear hl a; intro a hl
    refine d_take (i := 13) hl rfl (by kernel_rfl) (by kernel_rfl) (by kernel_rfl) (by kernel_rfl) (by kernel_rfl) rfl trivial (fun _ _ _ h => h) hM (fun w hC => r_move hl rfl) rfl ?_
    clear hl a; intro a hl
    refine d_skip (i := 14) hl rfl (by kernel_rfl) (by kernel_rfl) (by kernel_rfl) (by kernel_rfl) (by kernel_rfl) rfl ⟨_, _, rfl, rfl, rfl⟩ (fun _ _ _ h => h) hM ?_
    clear hl a; intro a hl
    refine d_skip (i := 15) hl rfl (by kernel_rfl) (by kernel_rfl) (by kernel_rfl) (by kernel_rfl) (by kernel_rfl) rfl ⟨_, _, rfl, rfl, rfl⟩ (fun _ _ _ h => h) hM ?_
    clear hl a; intro a hl
    refine d_skip (i := 16) hl rfl (by kernel_rfl) (by kernel_rfl) (by kernel_rfl) (by kernel_rfl) (by kernel_rfl) rfl ⟨_, _, rfl, rfl, rfl⟩ (fun _ _ _ h => h) hM ?_
    clear hl a; intro a hl
    refine d_skip (i := 17) hl rfl (by kernel_rfl) (by kernel_rfl) (by kernel_rfl) (by kernel_rfl) (by kernel_rfl) rfl ⟨_, _, rfl, rfl, rfl⟩ (fun _ _ _ h => h) hM ?_
    clear hl a; intro a hl
    refine d_skip (i := 18) hl rfl (by kernel_rfl) (by kernel_rfl) (by kernel_rfl) (by kernel_rfl) (by kernel_rfl) rfl ⟨_, _, rfl, rfl, rfl⟩ (fun _ _ _ h => h) hM ?_
    clear hl a; intro a hl
    refine d_skip (i := 19) hl rfl (by kernel_rfl) (by kernel_rfl) (by kernel_rfl) (by kernel_rfl) (by kernel_rfl) rfl ⟨_, _, rfl, rfl, rfl⟩ (fun _ _ _ h => h) hM ?_
    clear hl a; intro a hl
    refine d_take (i := 20) hl rfl (by kernel_rfl) (by kernel_rfl) (by kernel_rfl) (by kernel_rfl) (by kernel_rfl) rfl trivial (fun _ _ _ h => h) hM (fun w hC => r_pickF hl rfl rfl) rfl ?_
    clear hl a; intro a hl
    refine d_done (by kernel_rfl) ?_
    try clear hM
    have hl2 := hl.add (t := 1) (hl.add (t := 3) (hl.add (t := 24) (hl.nil) rfl) rfl) rfl; clear hl; have hl := hl2; clear hl2
    refine then_normal ?_
    refine c_condF hl rfl ?_
    refine wp_skip ?_
    first
    | (refine f_end0 (F' := (kr, C [.slice p9 (rs.length + 1) c9] 24) :: (kc, C [.int .i64 (n1 : Int), .int .i64 (n2 : Int), .int .i64 (n3 : Int)] 29) :: (E2 ++ (rs.flatMap RV.E ++ r.E))) hl hh rfl (by repeat (first | exact keeps_nil | apply keeps_cons (by repeat (first | exact find_head | apply find_tail | apply find_skip)) (by first  | rfl) | exact keeps_self | exact keeps_left | apply keeps_app | apply keeps_mv | apply keeps_skip)) ?_; exact ⟨rfl, rs ++ [r], p9, c9, E2, hg.snoc hr (by omega) (by omega) (by omega), by rw [List.length_append, fl_c3]; exact hR2, by rw [rE_snoc, List.length_append]; rfl⟩)
    | (refine f_end0 (F' := (kr, C [.slice rp (rs).length rc] 24) :: (kc, C [.int .i64 (n1 : Int), .int .i64 (n2 : Int), .int .i64 (n3 : Int)] 29) :: (RE ++ rs.flatMap RV.E)) hl hh rfl (by repeat (first | exact keeps_nil | apply keeps_cons (by repeat (first | exact find_head | apply find_tail | apply find_skip)) (by first  | rfl) | exact keeps_self | exact keeps_left | apply keeps_app | apply keeps_mv | apply keeps_skip)) ?_; exact ⟨rfl, rs, rp, rc, RE, hg, hR, rfl⟩)
end Go.Proofs.Qxb6500915aGreatDoor

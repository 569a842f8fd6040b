import Derived.Test.Qxb6500915aGreatDoorZ3
import Derived.Test.Qxb6500915aGreatDoorSrt
namespace Go.Proofs.Qxb6500915aGreatDoor
open Go.Eng
set_option linter.unusedVariables false
set_option linter.unusedSimpArgs false

/-! ## sorting rules -/
section zq
instance inhRV : Inhabited RV := ⟨RV0⟩
noncomputable def rvB (m : List (ByteArray × Value)) (x y : RV) : Bool := decide (cmpQ (sOf m) x.ru y.ru < 0)
theorem swo_rv (m : List (ByteArray × Value)) : Go.Sort.SWO (rvB m) where
  irrefl x := by unfold rvB; rw [decide_eq_false]; have := (poQ (sOf m)).sw x.ru x.ru; omega
  trans x y z h1 h2 := by
    unfold rvB at *
    rw [decide_eq_true_eq] at *
    exact (poQ (sOf m)).lt (by omega) h2
  ntrans x y z h1 h2 := by
    unfold rvB at *
    rw [decide_eq_false_iff_not] at *
    have a1 := (poQ (sOf m)).sw x.ru y.ru
    have a2 := (poQ (sOf m)).sw y.ru z.ru
    have a3 := (poQ (sOf m)).sw x.ru z.ru
    have := (poQ (sOf m)).tr z.ru y.ru x.ru (by omega) (by omega)
    omega
theorem rv_at! {d : Array RV} {i : Nat} (h : i < d.size) : d.toList[i]? = some d[i]! := by
  rw [getElem!_pos d i h, Array.getElem?_toList]; exact Array.getElem?_eq_getElem h
abbrev lessZ (kn ks : Nat) : Value := .func (.func 42) #[] #[.pointer (some ⟨kn, 0, none⟩), .pointer (some ⟨ks, 0, none⟩)]
abbrev swapZ (b n c : Nat) (th : Value) : Value := .func (.func 103) #[] #[.slice (some ⟨b, 0, none⟩) n c, th]
/-- where the row lies that is being sorted -/
structure SF (b n c : Nat) (th : Value) (m : List (ByteArray × Value)) (L : List RV) (d : Array RV) : Prop where
  sz : d.size = n
  big : n ≤ 12
  sw : Go.Proofs.SwapSwapsK Tryz.prog 103 #[.slice (some ⟨b, 0, none⟩) n c, th] RV.c3 3 b 0 n
  iv : IntV m
  ok : ∀ x, x ∈ L → x.ok ∧ x.ls.length ≤ 64
  mem : ∀ k, k < n → d[k]! ∈ L
theorem SF.to {b n c : Nat} {th : Value} {m : List (ByteArray × Value)} {L : List RV} {d d' : Array RV} (h : SF b n c th m L d) (hs : d'.size = n) (hm : ∀ k, k < n → d'[k]! ∈ L) : SF b n c th m L d' := ⟨hs, h.big, h.sw, h.iv, h.ok, hm⟩
theorem SF.swz {b n c : Nat} {th : Value} {m : List (ByteArray × Value)} {L : List RV} {d d' : Array RV} (h : SF b n c th m L d) (hs : d'.size = n) : Go.Proofs.SwapSwapsK Tryz.prog 103 #[.slice (some ⟨b, 0, none⟩) n c, th] RV.c3 3 b 0 d'.size := by rw [hs]; exact h.sw
theorem swp_mem {L : List RV} {d : Array RV} {i j : Nat} (h : ∀ k, k < d.size → d[k]! ∈ L) (hi : i < d.size) (hj : j < d.size) : ∀ k, k < d.size → (Go.Sort.swp d i j)[k]! ∈ L := by
  intro k hk
  have hs : k < ((d.setIfInBounds i d[j]!).setIfInBounds j d[i]!).size := by simpa using hk
  show ((d.setIfInBounds i d[j]!).setIfInBounds j d[i]!)[k]! ∈ L
  rw [getElem!_pos _ k hs, Array.getElem_setIfInBounds]
  split
  · exact h i hi
  · rw [Array.getElem_setIfInBounds]
    split
    · exact h j hj
    · rw [← getElem!_pos d k hk]; exact h k hk
    all_goals simpa using hk
  all_goals simpa using hk
theorem rvL_at {d : Array RV} {i : Nat} (h : i < d.size) (junk : List Value) : ((fl RV.c3 d.toList ++ junk).drop (0 + i * 3)).take 3 = RV.c3 d[i]! := fl_at c3_len (rv_at! h) junk
noncomputable def rvTI : TypeInfo := (Tryz.prog.info? 57).get (by kernel_rfl)
theorem rv_swaps (b n c : Nat) : Go.Proofs.SwapSwapsK Tryz.prog 103 #[.slice (some ⟨b, 0, none⟩) n c, typeHandle Tryz.prog 57] RV.c3 3 b 0 n :=
  Go.Proofs.swapSwapsK_of_literal false 103 (fun args W => run_callFunc_extern Tryz.func103 (by kernel_rfl) (by kernel_rfl) (by kernel_rfl) (e := Extern.ReflectliteSwapper.swap false) (by kernel_rfl) args W) 57 rvTI (by kernel_rfl) RV.c3 3 c3_len (by kernel_rfl) (fun _ => by kernel_rfl) (fun x v hv => by simp [RV.c3] at hv; rcases hv with rfl | rfl | rfl <;> rfl) b 0 n c
end zq


attribute [local irreducible] RV.E

variable {b kn ks mb n c ln lc sN : Nat} {lp : Option Addr} {th : Value} {junk : List Value} {m : List (ByteArray × Value)} {L : List RV} {d : Array RV}

set_option maxHeartbeats 8000000 in
theorem lessZ_spec (b kn ks mb n c ln lc sN : Nat) (lp : Option Addr) (th : Value) (junk : List Value) (m : List (ByteArray × Value)) (L : List RV) (d : Array RV) (hE : SF b n c th m L d) (hDr : ∀ x, x ∈ L → ∀ z, z ∈ x.E → z.1 ∉ [b, kn, ks, mb]) (i1 j1 : Int) (i j : Nat) (hi1 : i1 = (i : Int)) (hj1 : j1 = (j : Int)) (hi : i < n) (hj : j < n) : SpK Tryz.prog 42 #[.int .i64 i1, .int .i64 j1, .pointer (some ⟨kn, 0, none⟩), .pointer (some ⟨ks, 0, none⟩)] (fun w => ∀ x, x ∈ L → Mem x.E w) [(b, C (fl RV.c3 d.toList ++ junk) 57), (kn, C [.slice lp (ln : Nat) lc, .slice (some ⟨b, 0, none⟩) (n : Nat) c, .int .i64 (sN : Int)] 33), (ks, C [.map (some mb)] 87), (mb, MO kStr m)] (fun v F' => v = .bool (rvB m d[i]! d[j]!) ∧ F' = [(b, C (fl RV.c3 d.toList ++ junk) 57), (kn, C [.slice lp (ln : Nat) lc, .slice (some ⟨b, 0, none⟩) (n : Nat) c, .int .i64 (sN : Int)] 33), (ks, C [.map (some mb)] 87), (mb, MO kStr m)]) := by
  refine f_enter (args := [.int .i64 i1, .int .i64 j1, .pointer (some ⟨kn, 0, none⟩), .pointer (some ⟨ks, 0, none⟩)]) Tryz.func42 rfl Tryz.ntmps42 rfl ?_
  intro w0 w a hpre hl hh
  subst hi1
  subst hj1
  have hsz := hE.sz
  have hbig := hE.big
  have hz9 := hE.iv
  have hxm := hE.mem i hi
  have hym := hE.mem j hj
  have hd1 := rvL_at (d := d) (i := i) (by omega) junk
  have hd2 := rvL_at (d := d) (i := j) (by omega) junk
  generalize hXX : d[i]! = x at hxm hd1 ⊢
  generalize hYY : d[j]! = y at hym hd2 ⊢
  simp only [RV.c3] at hd1 hd2
  replace hDr : ∀ x, x ∈ L → ∀ z, z ∈ x.E → z.1 ∉ List.map Prod.fst [(b, C (fl RV.c3 d.toList ++ junk) 57), (kn, C [.slice lp (ln : Nat) lc, .slice (some ⟨b, 0, none⟩) (n : Nat) c, .int .i64 (sN : Int)] 33), (ks, C [.map (some mb)] 87), (mb, MO kStr m)] := hDr
  generalize hDD : List.map Prod.fst [(b, C (fl RV.c3 d.toList ++ junk) 57), (kn, C [.slice lp (ln : Nat) lc, .slice (some ⟨b, 0, none⟩) (n : Nat) c, .int .i64 (sN : Int)] 33), (ks, C [.map (some mb)] 87), (mb, MO kStr m)] = D at hh hDr ⊢
  simp only [slotsFrom, Nat.reduceAdd] at hl
  refine c_seq ?_
  refine c_region ?_
  refine wl (wl_val hl rfl trivial (r_assign hl rfl) ?_)
  clear hl a; intro a hl
  refine w_nil ?_
  have hl2 := hl.add (t := 0) (hl.add (t := 1) (hl.add (t := 2) (hl.add (t := 3) (hl.nil) rfl) rfl) rfl) rfl; clear hl; have hl := hl2; clear hl2
  refine then_normal ?_
  refine c_seq ?_
  refine c_draw [(b, C (fl RV.c3 d.toList ++ junk) 57), (kn, C [.slice lp (ln : Nat) lc, .slice (some ⟨b, 0, none⟩) (n : Nat) c, .int .i64 (sN : Int)] 33)] [13] mixed hh ?_
  clear hh w; intro w hh
  have hM : Mem [(b, C (fl RV.c3 d.toList ++ junk) 57), (kn, C [.slice lp (ln : Nat) lc, .slice (some ⟨b, 0, none⟩) (n : Nat) c, .int .i64 (sN : Int)] 33)] w := (memK hh (by repeat (first | exact keeps_nil | apply keeps_cons (by repeat (first | exact find_head | apply find_tail | apply find_skip)) (by first  | rfl) | exact keeps_self | exact keeps_left | apply keeps_app | apply keeps_mv | apply keeps_skip)))
  refine d_take (i := 0) hl rfl (by kernel_rfl) (by kernel_rfl) (by kernel_rfl) (by kernel_rfl) (by kernel_rfl) rfl trivial (fun _ _ _ h => h) hM (fun w hC => r_field hl rfl fld33_1) rfl ?_
  clear hl a; intro a hl
  refine d_take (i := 1) hl rfl (by kernel_rfl) (by kernel_rfl) (by kernel_rfl) (by kernel_rfl) (by kernel_rfl) rfl trivial (fun _ _ _ h => h) hM (fun w hC => r_loadC hl rfl one24 hC (by repeat (first | exact find_head | apply find_tail | apply find_skip)) (by first | rfl)) rfl ?_
  clear hl a; intro a hl
  refine d_take (i := 2) hl rfl (by kernel_rfl) (by kernel_rfl) (by kernel_rfl) (by kernel_rfl) (by kernel_rfl) rfl trivial (fun _ _ _ h => h) hM (fun w hC => r_move hl rfl) rfl ?_
  clear hl a; intro a hl
  refine d_take (i := 3) hl rfl (by kernel_rfl) (by kernel_rfl) (by kernel_rfl) (by kernel_rfl) (by kernel_rfl) rfl trivial (fun _ _ _ h => h) hM (fun w hC => r_indexS hl rfl rfl slc24 (by omega) (by omega) (by first | (simp only [Int.reduceToNat]; rfl) | exact toNat_add1 _ | exact toNat_add2 _ _ | exact toNat_emod _ _ | exact Int.toNat_natCast _ | rfl)) rfl ?_
  clear hl a; intro a hl
  refine d_take (i := 4) hl rfl (by kernel_rfl) (by kernel_rfl) (by kernel_rfl) (by kernel_rfl) (by kernel_rfl) rfl trivial (fun _ _ _ h => h) hM (fun w hC => r_loadCA hl rfl agg57 hC (by repeat (first | exact find_head | apply find_tail | apply find_skip)) (by first | exact hd1 | exact hd2 | (simp only [List.getElem?_cons_zero, List.getElem?_cons_succ, Value.cells, List.take_zero, List.take_succ_cons, List.take_nil, List.drop_zero, List.drop_succ_cons, List.drop_nil, List.length_cons, List.length_nil, List.cons_append, List.nil_append, List.append_nil, Nat.zero_add, Nat.add_zero, Nat.reduceAdd, Nat.reduceBEq, Nat.reduceEqDiff, Nat.ble, BEq.rfl, Bool.and_true, Bool.and_self, cond_true, beq_self_eq_true]; rfl)) (by first | rfl | (simp; done))) rfl ?_
  clear hl a; intro a hl
  refine d_take (i := 5) hl rfl (by kernel_rfl) (by kernel_rfl) (by kernel_rfl) (by kernel_rfl) (by kernel_rfl) rfl trivial (fun _ _ _ h => h) hM (fun w hC => r_field hl rfl fld33_1) rfl ?_
  clear hl a; intro a hl
  refine d_take (i := 6) hl rfl (by kernel_rfl) (by kernel_rfl) (by kernel_rfl) (by kernel_rfl) (by kernel_rfl) rfl trivial (fun _ _ _ h => h) hM (fun w hC => r_loadC hl rfl one24 hC (by repeat (first | exact find_head | apply find_tail | apply find_skip)) (by first | rfl)) rfl ?_
  clear hl a; intro a hl
  refine d_take (i := 7) hl rfl (by kernel_rfl) (by kernel_rfl) (by kernel_rfl) (by kernel_rfl) (by kernel_rfl) rfl trivial (fun _ _ _ h => h) hM (fun w hC => r_move hl rfl) rfl ?_
  clear hl a; intro a hl
  refine d_take (i := 8) hl rfl (by kernel_rfl) (by kernel_rfl) (by kernel_rfl) (by kernel_rfl) (by kernel_rfl) rfl trivial (fun _ _ _ h => h) hM (fun w hC => r_indexS hl rfl rfl slc24 (by omega) (by omega) (by first | (simp only [Int.reduceToNat]; rfl) | exact toNat_add1 _ | exact toNat_add2 _ _ | exact toNat_emod _ _ | exact Int.toNat_natCast _ | rfl)) rfl ?_
  clear hl a; intro a hl
  refine d_take (i := 9) hl rfl (by kernel_rfl) (by kernel_rfl) (by kernel_rfl) (by kernel_rfl) (by kernel_rfl) rfl trivial (fun _ _ _ h => h) hM (fun w hC => r_loadCA hl rfl agg57 hC (by repeat (first | exact find_head | apply find_tail | apply find_skip)) (by first | exact hd1 | exact hd2 | (simp only [List.getElem?_cons_zero, List.getElem?_cons_succ, Value.cells, List.take_zero, List.take_succ_cons, List.take_nil, List.drop_zero, List.drop_succ_cons, List.drop_nil, List.length_cons, List.length_nil, List.cons_append, List.nil_append, List.append_nil, Nat.zero_add, Nat.add_zero, Nat.reduceAdd, Nat.reduceBEq, Nat.reduceEqDiff, Nat.ble, BEq.rfl, Bool.and_true, Bool.and_self, cond_true, beq_self_eq_true]; rfl)) (by first | rfl | (simp; done))) rfl ?_
  clear hl a; intro a hl
  refine d_two (i := 10) (j := 11) (by kernel_rfl) rfl rfl ?_ ?_
  ·
    try clear hM
    refine id (w_alloc hl hh rfl trivial zero57 rfl ?_)
    clear hl hh a w; intro k7 a w hl hh
    have hM : Mem [(b, C (fl RV.c3 d.toList ++ junk) 57), (kn, C [.slice lp (ln : Nat) lc, .slice (some ⟨b, 0, none⟩) (n : Nat) c, .int .i64 (sN : Int)] 33)] w := (memK hh (by repeat (first | exact keeps_nil | apply keeps_cons (by repeat (first | exact find_head | apply find_tail | apply find_skip)) (by first  | rfl) | exact keeps_self | exact keeps_left | apply keeps_app | apply keeps_mv | apply keeps_skip)))
    refine d_step (fun _ => hM) ?_
    refine d_one (i := 11) (by kernel_rfl) rfl ?_
    try clear hM
    refine id (w_alloc hl hh rfl trivial zero57 rfl ?_)
    clear hl hh a w; intro k8 a w hl hh
    have hM : Mem [(b, C (fl RV.c3 d.toList ++ junk) 57), (kn, C [.slice lp (ln : Nat) lc, .slice (some ⟨b, 0, none⟩) (n : Nat) c, .int .i64 (sN : Int)] 33)] w := (memK hh (by repeat (first | exact keeps_nil | apply keeps_cons (by repeat (first | exact find_head | apply find_tail | apply find_skip)) (by first  | rfl) | exact keeps_self | exact keeps_left | apply keeps_app | apply keeps_mv | apply keeps_skip)))
    refine d_step (fun _ => hM) ?_
    refine d_one (i := 12) (by kernel_rfl) rfl ?_
    try clear hM
    refine id (w_storeA hl hh trivial agg57 rfl rfl (by repeat (first | exact find_head | apply find_tail | apply find_skip)) (by first | rfl | (simp; done) | exact hd1 | exact hd2) (by first | (simp; done) | (simp; omega)) (by first | rfl | (simp; done)) (by first | (simp only [setL, List.getElem?_cons_zero, List.getElem?_cons_succ, Value.cells, List.take_zero, List.take_succ_cons, List.take_nil, List.drop_zero, List.drop_succ_cons, List.drop_nil, List.length_cons, List.length_nil, List.cons_append, List.nil_append, List.append_nil, Nat.zero_add, Nat.add_zero, Nat.reduceAdd, Nat.reduceBEq, Nat.reduceEqDiff, Nat.ble, BEq.rfl, Bool.and_true, Bool.and_self, cond_true, beq_self_eq_true]; rfl)) ?_)
    clear hh w; intro w hh
    have hM : Mem [(b, C (fl RV.c3 d.toList ++ junk) 57), (kn, C [.slice lp (ln : Nat) lc, .slice (some ⟨b, 0, none⟩) (n : Nat) c, .int .i64 (sN : Int)] 33)] w := (memK hh (by repeat (first | exact keeps_nil | apply keeps_cons (by repeat (first | exact find_head | apply find_tail | apply find_skip)) (by first  | rfl) | exact keeps_self | exact keeps_left | apply keeps_app | apply keeps_mv | apply keeps_skip)))
    refine d_step (fun _ => hM) ?_
    refine d_one (i := 13) (by kernel_rfl) rfl ?_
    try clear hM
    refine id (w_storeA hl hh trivial agg57 rfl rfl (by repeat (first | exact find_head | apply find_tail | apply find_skip)) (by first | rfl | (simp; done) | exact hd1 | exact hd2) (by first | (simp; done) | (simp; omega)) (by first | rfl | (simp; done)) (by first | (simp only [setL, List.getElem?_cons_zero, List.getElem?_cons_succ, Value.cells, List.take_zero, List.take_succ_cons, List.take_nil, List.drop_zero, List.drop_succ_cons, List.drop_nil, List.length_cons, List.length_nil, List.cons_append, List.nil_append, List.append_nil, Nat.zero_add, Nat.add_zero, Nat.reduceAdd, Nat.reduceBEq, Nat.reduceEqDiff, Nat.ble, BEq.rfl, Bool.and_true, Bool.and_self, cond_true, beq_self_eq_true]; rfl)) ?_)
    clear hh w; intro w hh
    refine d_step (fun h => absurd h (by decide)) ?_
    refine d_done (by kernel_rfl) ?_
    try clear hM
    have hl2 := hl.add (t := 3) (hl.add (t := 7) (hl.add (t := 8) (hl.nil) rfl) rfl) rfl; clear hl; have hl := hl2; clear hl2
    refine then_normal ?_
    refine c_seq ?_
    refine c_seq ?_
    refine c_region ?_
    refine wl (w_load hl hh rfl trivial one87 rfl (by repeat (first | exact find_head | apply find_tail | apply find_skip)) (by first | rfl) ?_)
    clear hl a; intro a hl
    refine wl (wl_val hl rfl trivial (r_field hl rfl fld57_0) ?_)
    clear hl a; intro a hl
    refine wl (wl_val hl rfl trivial (r_field hl rfl fld46_0) ?_)
    clear hl a; intro a hl
    refine wl (w_load hl hh rfl trivial one9 rfl (by repeat (first | exact find_head | apply find_tail | apply find_skip)) (by first | rfl) ?_)
    clear hl a; intro a hl
    refine wl (w_lookup (keyStr Tryz.underlying9) Tryz.underlying87 zero3 hl hh rfl trivial rfl rfl (by repeat (first | exact find_head | apply find_tail | apply find_skip)) ?_)
    clear hl a; intro a hl
    rw [sO_get hz9] at hl
    refine wl (w_load hl hh rfl trivial one87 rfl (by repeat (first | exact find_head | apply find_tail | apply find_skip)) (by first | rfl) ?_)
    clear hl a; intro a hl
    refine wl (wl_val hl rfl trivial (r_field hl rfl fld57_0) ?_)
    clear hl a; intro a hl
    refine wl (wl_val hl rfl trivial (r_field hl rfl fld46_0) ?_)
    clear hl a; intro a hl
    refine wl (w_load hl hh rfl trivial one9 rfl (by repeat (first | exact find_head | apply find_tail | apply find_skip)) (by first | rfl) ?_)
    clear hl a; intro a hl
    refine wl (w_lookup (keyStr Tryz.underlying9) Tryz.underlying87 zero3 hl hh rfl trivial rfl rfl (by repeat (first | exact find_head | apply find_tail | apply find_skip)) ?_)
    clear hl a; intro a hl
    rw [sO_get hz9] at hl
    refine wl (wl_val hl rfl trivial (r_neq hl rfl rfl) ?_)
    clear hl a; intro a hl
    refine w_nil ?_
    have hl2 := hl.add (t := 3) (hl.add (t := 7) (hl.add (t := 8) (hl.add (t := 29) (hl.nil) rfl) rfl) rfl) rfl; clear hl; have hl := hl2; clear hl2
    refine then_normal ?_
    refine c_cond hl rfl ?_ ?_
    · intro hc0
      try simp only [decide_eq_true_eq, decide_eq_false_iff_not, Bool.not_eq_true', Bool.not_eq_false', Bool.not_eq_true, Bool.not_eq_false, Bool.and_eq_true, Bool.or_eq_true, Bool.and_eq_false_iff, Bool.or_eq_false_iff, Bool.not_not, ne_eq, Int.not_lt, Int.not_le, Decidable.not_not, beq_iff_eq, bne_iff_ne] at hc0
      refine c_seq ?_
      refine c_region ?_
      refine wl (w_load hl hh rfl trivial one87 rfl (by repeat (first | exact find_head | apply find_tail | apply find_skip)) (by first | rfl) ?_)
      clear hl a; intro a hl
      refine wl (wl_val hl rfl trivial (r_field hl rfl fld57_0) ?_)
      clear hl a; intro a hl
      refine wl (wl_val hl rfl trivial (r_field hl rfl fld46_0) ?_)
      clear hl a; intro a hl
      refine wl (w_load hl hh rfl trivial one9 rfl (by repeat (first | exact find_head | apply find_tail | apply find_skip)) (by first | rfl) ?_)
      clear hl a; intro a hl
      refine wl (w_lookup (keyStr Tryz.underlying9) Tryz.underlying87 zero3 hl hh rfl trivial rfl rfl (by repeat (first | exact find_head | apply find_tail | apply find_skip)) ?_)
      clear hl a; intro a hl
      rw [sO_get hz9] at hl
      refine wl (w_load hl hh rfl trivial one87 rfl (by repeat (first | exact find_head | apply find_tail | apply find_skip)) (by first | rfl) ?_)
      clear hl a; intro a hl
      refine wl (wl_val hl rfl trivial (r_field hl rfl fld57_0) ?_)
      clear hl a; intro a hl
      refine wl (wl_val hl rfl trivial (r_field hl rfl fld46_0) ?_)
      clear hl a; intro a hl
      refine wl (w_load hl hh rfl trivial one9 rfl (by repeat (first | exact find_head | apply find_tail | apply find_skip)) (by first | rfl) ?_)
      clear hl a; intro a hl
      refine wl (w_lookup (keyStr Tryz.underlying9) Tryz.underlying87 zero3 hl hh rfl trivial rfl rfl (by repeat (first | exact find_head | apply find_tail | apply find_skip)) ?_)
      clear hl a; intro a hl
      rw [sO_get hz9] at hl
      refine wl (wl_val hl rfl trivial (r_lss hl rfl rfl) ?_)
      clear hl a; intro a hl
      refine wl (wl_val hl rfl trivial (r_assign hl rfl) ?_)
      clear hl a; intro a hl
      refine w_nil ?_
      have hl2 := hl.add (t := 6) (hl.nil) rfl; clear hl; have hl := hl2; clear hl2
      refine then_normal ?_
      refine wp_ret ?_
      refine then_ret ?_
      refine f_ret1 (F' := [(b, C (fl RV.c3 d.toList ++ junk) 57), (kn, C [.slice lp (ln : Nat) lc, .slice (some ⟨b, 0, none⟩) (n : Nat) c, .int .i64 (sN : Int)] 33), (ks, C [.map (some mb)] 87), (mb, MO kStr m)]) hl hh rfl rfl (by repeat (first | exact keeps_nil | apply keeps_cons (by repeat (first | exact find_head | apply find_tail | apply find_skip)) (by first  | rfl) | exact keeps_self | exact keeps_left | apply keeps_app | apply keeps_mv | apply keeps_skip)) ?_
      exact ⟨congrArg Value.bool (cmpQ_1 (lv := sOf m) (x := x.ru) (y := y.ru) rfl rfl hc0), rfl⟩
    · intro hc0
      try simp only [decide_eq_true_eq, decide_eq_false_iff_not, Bool.not_eq_true', Bool.not_eq_false', Bool.not_eq_true, Bool.not_eq_false, Bool.and_eq_true, Bool.or_eq_true, Bool.and_eq_false_iff, Bool.or_eq_false_iff, Bool.not_not, ne_eq, Int.not_lt, Int.not_le, Decidable.not_not, beq_iff_eq, bne_iff_ne] at hc0
      refine wp_skip ?_
      refine then_normal ?_
      refine c_seq ?_
      refine c_region ?_
      refine wl (w_loadA hl hh rfl trivial agg57 rfl (by repeat (first | exact find_head | apply find_tail | apply find_skip)) (by first | exact hd1 | exact hd2 | (simp only [List.getElem?_cons_zero, List.getElem?_cons_succ, Value.cells, List.take_zero, List.take_succ_cons, List.take_nil, List.drop_zero, List.drop_succ_cons, List.drop_nil, List.length_cons, List.length_nil, List.cons_append, List.nil_append, List.append_nil, Nat.zero_add, Nat.add_zero, Nat.reduceAdd, Nat.reduceBEq, Nat.reduceEqDiff, Nat.ble, BEq.rfl, Bool.and_true, Bool.and_self, cond_true, beq_self_eq_true]; rfl)) (by first | rfl | (simp; done)) ?_)
      clear hl a; intro a hl
      refine wl (w_loadA hl hh rfl trivial agg57 rfl (by repeat (first | exact find_head | apply find_tail | apply find_skip)) (by first | exact hd1 | exact hd2 | (simp only [List.getElem?_cons_zero, List.getElem?_cons_succ, Value.cells, List.take_zero, List.take_succ_cons, List.take_nil, List.drop_zero, List.drop_succ_cons, List.drop_nil, List.length_cons, List.length_nil, List.cons_append, List.nil_append, List.append_nil, Nat.zero_add, Nat.add_zero, Nat.reduceAdd, Nat.reduceBEq, Nat.reduceEqDiff, Nat.ble, BEq.rfl, Bool.and_true, Bool.and_self, cond_true, beq_self_eq_true]; rfl)) (by first | rfl | (simp; done)) ?_)
      clear hl a; intro a hl
      refine wl (w_call hl hh rfl trivial rfl cal43 rfl (less_spec x y (hE.ok x hxm).1 (hE.ok y hym).1 (hE.ok x hxm).2 (hE.ok y hym).2) (by repeat (first | exact keeps_nil | apply keeps_cons (by repeat (first | exact find_head | apply find_tail | apply find_skip)) (by first  | rfl) | exact keeps_self | exact keeps_left | apply keeps_app | apply keeps_mv | apply keeps_skip)) ⟨mem_keepD hh (hpre x hxm) (hDr x hxm), mem_keepD hh (hpre y hym) (hDr y hym)⟩ ?_)
      clear hl hh a w; intro vc Fc a w hR hl hh
      obtain ⟨rfl, rfl⟩ := hR
      try simp only [List.cons_append, List.nil_append, List.append_assoc, List.append_nil] at hh
      refine wl (wl_val hl rfl trivial (r_assign hl rfl) ?_)
      clear hl a; intro a hl
      refine w_nil ?_
      have hl2 := hl.add (t := 6) (hl.nil) rfl; clear hl; have hl := hl2; clear hl2
      refine then_normal ?_
      refine wp_ret ?_
      refine f_ret1 (F' := [(b, C (fl RV.c3 d.toList ++ junk) 57), (kn, C [.slice lp (ln : Nat) lc, .slice (some ⟨b, 0, none⟩) (n : Nat) c, .int .i64 (sN : Int)] 33), (ks, C [.map (some mb)] 87), (mb, MO kStr m)]) hl hh rfl rfl (by repeat (first | exact keeps_nil | apply keeps_cons (by repeat (first | exact find_head | apply find_tail | apply find_skip)) (by first  | rfl) | exact keeps_self | exact keeps_left | apply keeps_app | apply keeps_mv | apply keeps_skip)) ?_
      exact ⟨by unfold rvB; rw [cmpQ_0 (lv := sOf m) (x := x.ru) (y := y.ru) rfl rfl hc0], rfl⟩
  ·
    try clear hM
    refine id (w_alloc hl hh rfl trivial zero57 rfl ?_)
    clear hl hh a w; intro k8 a w hl hh
    have hM : Mem [(b, C (fl RV.c3 d.toList ++ junk) 57), (kn, C [.slice lp (ln : Nat) lc, .slice (some ⟨b, 0, none⟩) (n : Nat) c, .int .i64 (sN : Int)] 33)] w := (memK hh (by repeat (first | exact keeps_nil | apply keeps_cons (by repeat (first | exact find_head | apply find_tail | apply find_skip)) (by first  | rfl) | exact keeps_self | exact keeps_left | apply keeps_app | apply keeps_mv | apply keeps_skip)))
    refine d_step (fun _ => hM) ?_
    refine d_one (i := 10) (by kernel_rfl) rfl ?_
    try clear hM
    refine id (w_alloc hl hh rfl trivial zero57 rfl ?_)
    clear hl hh a w; intro k7 a w hl hh
    have hM : Mem [(b, C (fl RV.c3 d.toList ++ junk) 57), (kn, C [.slice lp (ln : Nat) lc, .slice (some ⟨b, 0, none⟩) (n : Nat) c, .int .i64 (sN : Int)] 33)] w := (memK hh (by repeat (first | exact keeps_nil | apply keeps_cons (by repeat (first | exact find_head | apply find_tail | apply find_skip)) (by first  | rfl) | exact keeps_self | exact keeps_left | apply keeps_app | apply keeps_mv | apply keeps_skip)))
    refine d_step (fun _ => hM) ?_
    refine d_one (i := 12) (by kernel_rfl) rfl ?_
    try clear hM
    refine id (w_storeA hl hh trivial agg57 rfl rfl (by repeat (first | exact find_head | apply find_tail | apply find_skip)) (by first | rfl | (simp; done) | exact hd1 | exact hd2) (by first | (simp; done) | (simp; omega)) (by first | rfl | (simp; done)) (by first | (simp only [setL, List.getElem?_cons_zero, List.getElem?_cons_succ, Value.cells, List.take_zero, List.take_succ_cons, List.take_nil, List.drop_zero, List.drop_succ_cons, List.drop_nil, List.length_cons, List.length_nil, List.cons_append, List.nil_append, List.append_nil, Nat.zero_add, Nat.add_zero, Nat.reduceAdd, Nat.reduceBEq, Nat.reduceEqDiff, Nat.ble, BEq.rfl, Bool.and_true, Bool.and_self, cond_true, beq_self_eq_true]; rfl)) ?_)
    clear hh w; intro w hh
    have hM : Mem [(b, C (fl RV.c3 d.toList ++ junk) 57), (kn, C [.slice lp (ln : Nat) lc, .slice (some ⟨b, 0, none⟩) (n : Nat) c, .int .i64 (sN : Int)] 33)] w := (memK hh (by repeat (first | exact keeps_nil | apply keeps_cons (by repeat (first | exact find_head | apply find_tail | apply find_skip)) (by first  | rfl) | exact keeps_self | exact keeps_left | apply keeps_app | apply keeps_mv | apply keeps_skip)))
    refine d_step (fun _ => hM) ?_
    refine d_one (i := 13) (by kernel_rfl) rfl ?_
    try clear hM
    refine id (w_storeA hl hh trivial agg57 rfl rfl (by repeat (first | exact find_head | apply find_tail | apply find_skip)) (by first | rfl | (simp; done) | exact hd1 | exact hd2) (by first | (simp; done) | (simp; omega)) (by first | rfl | (simp; done)) (by first | (simp only [setL, List.getElem?_cons_zero, List.getElem?_cons_succ, Value.cells, List.take_zero, List.take_succ_cons, List.take_nil, List.drop_zero, List.drop_succ_cons, List.drop_nil, List.length_cons, List.length_nil, List.cons_append, List.nil_append, List.append_nil, Nat.zero_add, Nat.add_zero, Nat.reduceAdd, Nat.reduceBEq, Nat.reduceEqDiff, Nat.ble, BEq.rfl, Bool.and_true, Bool.and_self, cond_true, beq_self_eq_true]; rfl)) ?_)
    clear hh w; intro w hh
    refine d_step (fun h => absurd h (by decide)) ?_
    refine d_done (by kernel_rfl) ?_
    try clear hM
    have hl2 := hl.add (t := 3) (hl.add (t := 7) (hl.add (t := 8) (hl.nil) rfl) rfl) rfl; clear hl; have hl := hl2; clear hl2
    refine then_normal ?_
    refine c_seq ?_
    refine c_seq ?_
    refine c_region ?_
    refine wl (w_load hl hh rfl trivial one87 rfl (by repeat (first | exact find_head | apply find_tail | apply find_skip)) (by first | rfl) ?_)
    clear hl a; intro a hl
    refine wl (wl_val hl rfl trivial (r_field hl rfl fld57_0) ?_)
    clear hl a; intro a hl
    refine wl (wl_val hl rfl trivial (r_field hl rfl fld46_0) ?_)
    clear hl a; intro a hl
    refine wl (w_load hl hh rfl trivial one9 rfl (by repeat (first | exact find_head | apply find_tail | apply find_skip)) (by first | rfl) ?_)
    clear hl a; intro a hl
    refine wl (w_lookup (keyStr Tryz.underlying9) Tryz.underlying87 zero3 hl hh rfl trivial rfl rfl (by repeat (first | exact find_head | apply find_tail | apply find_skip)) ?_)
    clear hl a; intro a hl
    rw [sO_get hz9] at hl
    refine wl (w_load hl hh rfl trivial one87 rfl (by repeat (first | exact find_head | apply find_tail | apply find_skip)) (by first | rfl) ?_)
    clear hl a; intro a hl
    refine wl (wl_val hl rfl trivial (r_field hl rfl fld57_0) ?_)
    clear hl a; intro a hl
    refine wl (wl_val hl rfl trivial (r_field hl rfl fld46_0) ?_)
    clear hl a; intro a hl
    refine wl (w_load hl hh rfl trivial one9 rfl (by repeat (first | exact find_head | apply find_tail | apply find_skip)) (by first | rfl) ?_)
    clear hl a; intro a hl
    refine wl (w_lookup (keyStr Tryz.underlying9) Tryz.underlying87 zero3 hl hh rfl trivial rfl rfl (by repeat (first | exact find_head | apply find_tail | apply find_skip)) ?_)
    clear hl a; intro a hl
    rw [sO_get hz9] at hl
    refine wl (wl_val hl rfl trivial (r_neq hl rfl rfl) ?_)
    clear hl a; intro a hl
    refine w_nil ?_
    have hl2 := hl.add (t := 3) (hl.add (t := 7) (hl.add (t := 8) (hl.add (t := 29) (hl.nil) rfl) rfl) rfl) rfl; clear hl; have hl := hl2; clear hl2
    refine then_normal ?_
    refine c_cond hl rfl ?_ ?_
    · intro hc0
      try simp only [decide_eq_true_eq, decide_eq_false_iff_not, Bool.not_eq_true', Bool.not_eq_false', Bool.not_eq_true, Bool.not_eq_false, Bool.and_eq_true, Bool.or_eq_true, Bool.and_eq_false_iff, Bool.or_eq_false_iff, Bool.not_not, ne_eq, Int.not_lt, Int.not_le, Decidable.not_not, beq_iff_eq, bne_iff_ne] at hc0
      refine c_seq ?_
      refine c_region ?_
      refine wl (w_load hl hh rfl trivial one87 rfl (by repeat (first | exact find_head | apply find_tail | apply find_skip)) (by first | rfl) ?_)
      clear hl a; intro a hl
      refine wl (wl_val hl rfl trivial (r_field hl rfl fld57_0) ?_)
      clear hl a; intro a hl
      refine wl (wl_val hl rfl trivial (r_field hl rfl fld46_0) ?_)
      clear hl a; intro a hl
      refine wl (w_load hl hh rfl trivial one9 rfl (by repeat (first | exact find_head | apply find_tail | apply find_skip)) (by first | rfl) ?_)
      clear hl a; intro a hl
      refine wl (w_lookup (keyStr Tryz.underlying9) Tryz.underlying87 zero3 hl hh rfl trivial rfl rfl (by repeat (first | exact find_head | apply find_tail | apply find_skip)) ?_)
      clear hl a; intro a hl
      rw [sO_get hz9] at hl
      refine wl (w_load hl hh rfl trivial one87 rfl (by repeat (first | exact find_head | apply find_tail | apply find_skip)) (by first | rfl) ?_)
      clear hl a; intro a hl
      refine wl (wl_val hl rfl trivial (r_field hl rfl fld57_0) ?_)
      clear hl a; intro a hl
      refine wl (wl_val hl rfl trivial (r_field hl rfl fld46_0) ?_)
      clear hl a; intro a hl
      refine wl (w_load hl hh rfl trivial one9 rfl (by repeat (first | exact find_head | apply find_tail | apply find_skip)) (by first | rfl) ?_)
      clear hl a; intro a hl
      refine wl (w_lookup (keyStr Tryz.underlying9) Tryz.underlying87 zero3 hl hh rfl trivial rfl rfl (by repeat (first | exact find_head | apply find_tail | apply find_skip)) ?_)
      clear hl a; intro a hl
      rw [sO_get hz9] at hl
      refine wl (wl_val hl rfl trivial (r_lss hl rfl rfl) ?_)
      clear hl a; intro a hl
      refine wl (wl_val hl rfl trivial (r_assign hl rfl) ?_)
      clear hl a; intro a hl
      refine w_nil ?_
      have hl2 := hl.add (t := 6) (hl.nil) rfl; clear hl; have hl := hl2; clear hl2
      refine then_normal ?_
      refine wp_ret ?_
      refine then_ret ?_
      refine f_ret1 (F' := [(b, C (fl RV.c3 d.toList ++ junk) 57), (kn, C [.slice lp (ln : Nat) lc, .slice (some ⟨b, 0, none⟩) (n : Nat) c, .int .i64 (sN : Int)] 33), (ks, C [.map (some mb)] 87), (mb, MO kStr m)]) hl hh rfl rfl (by repeat (first | exact keeps_nil | apply keeps_cons (by repeat (first | exact find_head | apply find_tail | apply find_skip)) (by first  | rfl) | exact keeps_self | exact keeps_left | apply keeps_app | apply keeps_mv | apply keeps_skip)) ?_
      exact ⟨congrArg Value.bool (cmpQ_1 (lv := sOf m) (x := x.ru) (y := y.ru) rfl rfl hc0), rfl⟩
    · intro hc0
      try simp only [decide_eq_true_eq, decide_eq_false_iff_not, Bool.not_eq_true', Bool.not_eq_false', Bool.not_eq_true, Bool.not_eq_false, Bool.and_eq_true, Bool.or_eq_true, Bool.and_eq_false_iff, Bool.or_eq_false_iff, Bool.not_not, ne_eq, Int.not_lt, Int.not_le, Decidable.not_not, beq_iff_eq, bne_iff_ne] at hc0
      refine wp_skip ?_
      refine then_normal ?_
      refine c_seq ?_
      refine c_region ?_
      refine wl (w_loadA hl hh rfl trivial agg57 rfl (by repeat (first | exact find_head | apply find_tail | apply find_skip)) (by first | exact hd1 | exact hd2 | (simp only [List.getElem?_cons_zero, List.getElem?_cons_succ, Value.cells, List.take_zero, List.take_succ_cons, List.take_nil, List.drop_zero, List.drop_succ_cons, List.drop_nil, List.length_cons, List.length_nil, List.cons_append, List.nil_append, List.append_nil, Nat.zero_add, Nat.add_zero, Nat.reduceAdd, Nat.reduceBEq, Nat.reduceEqDiff, Nat.ble, BEq.rfl, Bool.and_true, Bool.and_self, cond_true, beq_self_eq_true]; rfl)) (by first | rfl | (simp; done)) ?_)
      clear hl a; intro a hl
      refine wl (w_loadA hl hh rfl trivial agg57 rfl (by repeat (first | exact find_head | apply find_tail | apply find_skip)) (by first | exact hd1 | exact hd2 | (simp only [List.getElem?_cons_zero, List.getElem?_cons_succ, Value.cells, List.take_zero, List.take_succ_cons, List.take_nil, List.drop_zero, List.drop_succ_cons, List.drop_nil, List.length_cons, List.length_nil, List.cons_append, List.nil_append, List.append_nil, Nat.zero_add, Nat.add_zero, Nat.reduceAdd, Nat.reduceBEq, Nat.reduceEqDiff, Nat.ble, BEq.rfl, Bool.and_true, Bool.and_self, cond_true, beq_self_eq_true]; rfl)) (by first | rfl | (simp; done)) ?_)
      clear hl a; intro a hl
      refine wl (w_call hl hh rfl trivial rfl cal43 rfl (less_spec x y (hE.ok x hxm).1 (hE.ok y hym).1 (hE.ok x hxm).2 (hE.ok y hym).2) (by repeat (first | exact keeps_nil | apply keeps_cons (by repeat (first | exact find_head | apply find_tail | apply find_skip)) (by first  | rfl) | exact keeps_self | exact keeps_left | apply keeps_app | apply keeps_mv | apply keeps_skip)) ⟨mem_keepD hh (hpre x hxm) (hDr x hxm), mem_keepD hh (hpre y hym) (hDr y hym)⟩ ?_)
      clear hl hh a w; intro vc Fc a w hR hl hh
      obtain ⟨rfl, rfl⟩ := hR
      try simp only [List.cons_append, List.nil_append, List.append_assoc, List.append_nil] at hh
      refine wl (wl_val hl rfl trivial (r_assign hl rfl) ?_)
      clear hl a; intro a hl
      refine w_nil ?_
      have hl2 := hl.add (t := 6) (hl.nil) rfl; clear hl; have hl := hl2; clear hl2
      refine then_normal ?_
      refine wp_ret ?_
      refine f_ret1 (F' := [(b, C (fl RV.c3 d.toList ++ junk) 57), (kn, C [.slice lp (ln : Nat) lc, .slice (some ⟨b, 0, none⟩) (n : Nat) c, .int .i64 (sN : Int)] 33), (ks, C [.map (some mb)] 87), (mb, MO kStr m)]) hl hh rfl rfl (by repeat (first | exact keeps_nil | apply keeps_cons (by repeat (first | exact find_head | apply find_tail | apply find_skip)) (by first  | rfl) | exact keeps_self | exact keeps_left | apply keeps_app | apply keeps_mv | apply keeps_skip)) ?_
      exact ⟨by unfold rvB; rw [cmpQ_0 (lv := sOf m) (x := x.ru) (y := y.ru) rfl rfl hc0], rfl⟩
end Go.Proofs.Qxb6500915aGreatDoor

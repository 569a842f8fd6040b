import Derived.Test.Qxb6500915aGreatDoorH8
namespace Go.Proofs.Qxb6500915aGreatDoor
open Go.Eng
set_option linter.unusedVariables false
set_option linter.unusedSimpArgs false
theorem one71 : oneOk Tryz.prog 71 = true := by kernel_rfl
theorem cal26 : callable Tryz.prog 26 = true := by kernel_rfl
theorem cal27 : callable Tryz.prog 27 = true := by kernel_rfl
/-! ## the order of rules -/
structure PO {α : Type} (c : α → α → Int) : Prop where
  sw : ∀ x y, c y x = - c x y
  tr : ∀ x y z, c x y ≤ 0 → c y z ≤ 0 → c x z ≤ 0
theorem PO.thn {α : Type} {c d : α → α → Int} (hc : PO c) (sw : ∀ x y, d y x = - d x y) (tr : ∀ x y z, c x y = 0 → c y z = 0 → d x y ≤ 0 → d y z ≤ 0 → d x z ≤ 0) : PO (fun x y => thn (c x y) (d x y)) := by
  constructor
  · intro x y
    show Qxb6500915aGreatDoor.thn (c y x) (d y x) = - Qxb6500915aGreatDoor.thn (c x y) (d x y)
    unfold Qxb6500915aGreatDoor.thn
    have := hc.sw x y
    by_cases h : c x y = 0
    · rw [if_pos h, if_pos (by omega)]; exact sw x y
    · rw [if_neg h, if_neg (by omega)]; exact this
  · intro x y z h1 h2
    show Qxb6500915aGreatDoor.thn (c x z) (d x z) ≤ 0
    have h1 : Qxb6500915aGreatDoor.thn (c x y) (d x y) ≤ 0 := h1
    have h2 : Qxb6500915aGreatDoor.thn (c y z) (d y z) ≤ 0 := h2
    unfold Qxb6500915aGreatDoor.thn at *
    have a1 : c x y ≤ 0 := by split at h1 <;> omega
    have a2 : c y z ≤ 0 := by split at h2 <;> omega
    have a3 := hc.tr x y z a1 a2
    by_cases h : c x z = 0
    · have b1 := hc.sw x z
      have b2 := hc.tr y z x a2 (by omega)
      have b3 := hc.sw x y
      have b4 := hc.tr z x y (by omega) a1
      have b5 := hc.sw y z
      have c1 : c x y = 0 := by omega
      have c2 : c y z = 0 := by omega
      rw [if_pos c1] at h1; rw [if_pos c2] at h2; rw [if_pos h]
      exact tr x y z c1 c2 h1 h2
    · rw [if_neg h]; exact a3
theorem PO.on {α β : Type} {c : α → α → Int} (hc : PO c) (f : β → α) : PO (fun x y => c (f x) (f y)) := ⟨fun x y => hc.sw _ _, fun x y z => hc.tr _ _ _⟩
theorem poI : PO cmpI := by
  constructor
  · intro x y; unfold cmpI; split <;> split <;> (try split) <;> omega
  · intro x y z h1 h2; unfold cmpI at *; split at h1 <;> split at h2 <;> (try split at h1) <;> (try split at h2) <;> (try split) <;> (try split) <;> omega
theorem poS : PO cmpS := ⟨cmpS_swap, fun _ _ _ => cmpS_trans⟩
theorem poT : PO cmpT := (poI.on Tm.k).thn (PO.sw ((poI.on Tm.v).thn (PO.sw ((poI.on Tm.i).thn (poS.on Tm.s).sw (fun x y z _ _ => (poS.on Tm.s).tr x y z))) (fun x y z _ _ => ((poI.on Tm.i).thn (poS.on Tm.s).sw (fun x y z _ _ => (poS.on Tm.s).tr x y z)).tr x y z))) (fun x y z _ _ => ((poI.on Tm.v).thn (PO.sw ((poI.on Tm.i).thn (poS.on Tm.s).sw (fun x y z _ _ => (poS.on Tm.s).tr x y z))) (fun x y z _ _ => ((poI.on Tm.i).thn (poS.on Tm.s).sw (fun x y z _ _ => (poS.on Tm.s).tr x y z)).tr x y z)).tr x y z)
theorem thn_neg (a b : Int) : thn (-a) (-b) = - thn a b := by unfold thn; split <;> split <;> omega
theorem cmpTs_sw : ∀ a b : List Tm, cmpTs b a = - cmpTs a b
  | [], [] => rfl
  | [], _ :: _ => rfl
  | _ :: _, [] => rfl
  | x :: a, y :: b => by
    show thn (cmpT y x) (cmpTs b a) = - thn (cmpT x y) (cmpTs a b)
    rw [poT.sw x y, cmpTs_sw a b, thn_neg]
theorem thn_tr {α : Type} {c : α → α → Int} (hc : PO c) {x y z : α} {d1 d2 d3 : Int} (h1 : thn (c x y) d1 ≤ 0) (h2 : thn (c y z) d2 ≤ 0) (h : d1 ≤ 0 → d2 ≤ 0 → d3 ≤ 0) : thn (c x z) d3 ≤ 0 := by
  unfold thn at *
  have a1 : c x y ≤ 0 := by split at h1 <;> omega
  have a2 : c y z ≤ 0 := by split at h2 <;> omega
  have a3 := hc.tr x y z a1 a2
  by_cases h9 : c x z = 0
  · have b1 := hc.sw x z
    have b2 := hc.tr y z x a2 (by omega)
    have b3 := hc.sw x y
    have b4 := hc.tr z x y (by omega) a1
    have b5 := hc.sw y z
    have c1 : c x y = 0 := by omega
    have c2 : c y z = 0 := by omega
    rw [if_pos c1] at h1; rw [if_pos c2] at h2; rw [if_pos h9]
    exact h h1 h2
  · rw [if_neg h9]; exact a3
theorem cmpTs_tr : ∀ a b c : List Tm, a.length = b.length → b.length = c.length → cmpTs a b ≤ 0 → cmpTs b c ≤ 0 → cmpTs a c ≤ 0
  | [], _, _, _, _, _, _ => by unfold cmpTs; omega
  | x :: a, y :: b, z :: c, e1, e2, h1, h2 => thn_tr poT h1 h2 (cmpTs_tr a b c (by simpa using e1) (by simpa using e2))
theorem cmpI_len {a b : List Tm} (h : cmpI a.length b.length = 0) : a.length = b.length := by have := cmpI_0 h; omega
theorem poA : PO (fun (x y : ByteArray × List Tm) => cmpA x.1 x.2 y.1 y.2) := by
  have h1 : PO (fun (x y : ByteArray × List Tm) => Qxb6500915aGreatDoor.thn (cmpI x.2.length y.2.length) (cmpTs x.2 y.2)) := (poI.on (fun x : ByteArray × List Tm => (x.2.length : Int))).thn (fun x y => cmpTs_sw _ _) (fun x y z h1 h2 => cmpTs_tr _ _ _ (cmpI_len h1) (cmpI_len h2))
  exact (poS.on (fun x : ByteArray × List Tm => x.1)).thn h1.sw (fun x y z _ _ => h1.tr x y z)
theorem poL : PO cmpL := by
  have h1 := poA.on (fun l : Lt => (l.p, l.a))
  have h2 : PO (fun (x y : Lt) => Qxb6500915aGreatDoor.thn (cmpI x.o y.o) (cmpA x.p x.a y.p y.a)) := (poI.on Lt.o).thn h1.sw (fun x y z _ _ => h1.tr x y z)
  exact (poI.on Lt.k).thn h2.sw (fun x y z _ _ => h2.tr x y z)
theorem cmpB_sw : ∀ a b : List Lt, cmpB b a = - cmpB a b
  | [], [] => rfl
  | [], _ :: _ => rfl
  | _ :: _, [] => rfl
  | x :: a, y :: b => by
    show thn (cmpL y x) (cmpB b a) = - thn (cmpL x y) (cmpB a b)
    rw [poL.sw x y, cmpB_sw a b, thn_neg]
theorem cmpB_tr : ∀ a b c : List Lt, cmpB a b ≤ 0 → cmpB b c ≤ 0 → cmpB a c ≤ 0
  | [], _, [], _, _ => Int.le_refl 0
  | [], _, _ :: _, _, _ => by show (-1 : Int) ≤ 0; omega
  | x :: a, [], _, h, _ => by have : (1 : Int) ≤ 0 := h; omega
  | x :: a, y :: b, [], _, h => by have : (1 : Int) ≤ 0 := h; omega
  | x :: a, y :: b, z :: c, h1, h2 => thn_tr poL h1 h2 (cmpB_tr a b c)
theorem poR : PO cmpR := (poA.on (fun r : Ru => (r.p, r.a))).thn (fun x y => cmpB_sw _ _) (fun x y z _ _ => cmpB_tr _ _ _)
theorem thn_z {a b : Int} (h : thn a b = 0) : a = 0 ∧ b = 0 := by unfold thn at h; split at h <;> omega
theorem cmpT_eq {x y : Tm} (h : cmpT x y = 0) : x = y := by
  obtain ⟨h1, h⟩ := thn_z h
  obtain ⟨h2, h⟩ := thn_z h
  obtain ⟨h3, h4⟩ := thn_z h
  cases x; cases y
  simp only at h1 h2 h3 h4
  rw [cmpI_0 h1, cmpI_0 h2, cmpI_0 h3, cmpS_eq h4]
theorem cmpTs_eq : ∀ a b : List Tm, a.length = b.length → cmpTs a b = 0 → a = b
  | [], [], _, _ => rfl
  | [], _ :: _, h, _ => by cases h
  | _ :: _, [], h, _ => by cases h
  | x :: a, y :: b, e, h => by
    obtain ⟨h1, h2⟩ := thn_z h
    rw [cmpT_eq h1, cmpTs_eq a b (by simpa using e) h2]
theorem cmpA_eq {p q : ByteArray} {a b : List Tm} (h : cmpA p a q b = 0) : p = q ∧ a = b := by
  obtain ⟨h1, h⟩ := thn_z h
  obtain ⟨h2, h3⟩ := thn_z h
  exact ⟨cmpS_eq h1, cmpTs_eq a b (cmpI_len h2) h3⟩
theorem cmpL_eq {x y : Lt} (h : cmpL x y = 0) : x = y := by
  obtain ⟨h1, h⟩ := thn_z h
  obtain ⟨h2, h⟩ := thn_z h
  obtain ⟨h3, h4⟩ := cmpA_eq h
  cases x; cases y
  simp only at h1 h2 h3 h4
  rw [cmpI_0 h1, cmpI_0 h2, h3, h4]
theorem cmpB_eq : ∀ a b : List Lt, cmpB a b = 0 → a = b
  | [], [], _ => rfl
  | [], _ :: _, h => by have : (-1 : Int) = 0 := h; omega
  | _ :: _, [], h => by have : (1 : Int) = 0 := h; omega
  | x :: a, y :: b, h => by
    obtain ⟨h1, h2⟩ := thn_z h
    rw [cmpL_eq h1, cmpB_eq a b h2]
theorem cmpR_eq {x y : Ru} (h : cmpR x y = 0) : x = y := by
  obtain ⟨h1, h2⟩ := thn_z h
  obtain ⟨h3, h4⟩ := cmpA_eq h1
  have h5 := cmpB_eq _ _ h2
  cases x; cases y
  simp only at h3 h4 h5
  rw [h3, h4, h5]
theorem cmpR_self (x : Ru) : cmpR x x = 0 := by have := poR.sw x x; omega
theorem cmpL_self (x : Lt) : cmpL x x = 0 := by have := poL.sw x x; omega
/-- the level that a table gives a name -/
def lvP (ps : List Pd) (n : ByteArray) : Nat := match pos ps n with
  | some i => (match ps[i]? with | some x => x.s | none => 0)
  | none => 0
theorem lvP_at {ps : List Pd} {n : ByteArray} {i : Nat} {x : Pd} (h : pos ps n = some i) (hx : ps[i]? = some x) : lvP ps n = x.s := by unfold lvP; rw [h]; simp only [hx]
/-- levels first, then the order of rules -/
def cmpQ (lv : ByteArray → Nat) (x y : Ru) : Int := thn (cmpI (lv x.p) (lv y.p)) (cmpR x y)
theorem poQ (lv : ByteArray → Nat) : PO (cmpQ lv) := (poI.on (fun r : Ru => (lv r.p : Int))).thn poR.sw (fun x y z _ _ => poR.tr x y z)
theorem cmpQ_1 {lv : ByteArray → Nat} {x y : Ru} {a b : Int} (ha : a = (lv x.p : Int)) (hb : b = (lv y.p : Int)) (h : ¬ a = b) : decide (a < b) = decide (cmpQ lv x y < 0) := by
  subst ha; subst hb
  unfold cmpQ thn cmpI
  by_cases h1 : (lv x.p : Int) < lv y.p
  · simp [h1]
  · by_cases h2 : (lv y.p : Int) < lv x.p
    · simp [h1, h2]
    · exact absurd (by omega) h
theorem cmpQ_0 {lv : ByteArray → Nat} {x y : Ru} {a b : Int} (ha : a = (lv x.p : Int)) (hb : b = (lv y.p : Int)) (h : a = b) : cmpQ lv x y = cmpR x y := by
  subst ha; subst hb
  unfold cmpQ
  exact thn_0 (by unfold cmpI; rw [h, if_neg (Int.lt_irrefl _), if_neg (Int.lt_irrefl _)])
def ltQ (lv : ByteArray → Nat) (x y : RV) : Prop := cmpQ lv x.ru y.ru < 0
def leQ (lv : ByteArray → Nat) (x y : RV) : Prop := cmpQ lv x.ru y.ru ≤ 0
theorem leQ_trans (lv : ByteArray → Nat) (x y z : RV) (h1 : leQ lv x y) (h2 : leQ lv y z) : leQ lv x z := (poQ lv).tr _ _ _ h1 h2
theorem ltQ_le (lv : ByteArray → Nat) (x y z : RV) (h1 : ltQ lv x y) (h2 : leQ lv y z) : ltQ lv x z := by
  have h3 : leQ lv x z := leQ_trans lv x y z (Int.le_of_lt h1) h2
  unfold ltQ leQ at *
  by_cases e : cmpQ lv x.ru z.ru = 0
  · have h4 := (poQ lv).sw x.ru z.ru
    have h5 := (poQ lv).tr y.ru z.ru x.ru h2 (by omega)
    have h6 := (poQ lv).sw x.ru y.ru
    omega
  · omega
structure TbW (tb mb : Nat) (ps : List Pd) (pp : Option Addr) (pc : Nat) (pE : List (Nat × Obj)) (w : World) : Prop where
  t : w.heap[tb]? = some (C [.map (some mb), .slice pp ps.length pc] 111)
  m : w.heap[mb]? = some (MO kStr (ixf 0 ps))
  e : Mem pE w


set_option maxHeartbeats 1000000 in
theorem stratum_spec (tb mb : Nat) (ps : List Pd) (pp : Option Addr) (pc : Nat) (pE : List (Nat × Obj)) (hP : Row (.slice pp ps.length pc) ps.length (fl pdc ps) 3 93 pE) (hpl : ps.length ≤ 100000000) (n : ByteArray) (hn : (pos ps n).isSome = true) : SpK Tryz.prog 26 #[.pointer (some ⟨tb, 0, none⟩), .string n] (TbW tb mb ps pp pc pE) [] (fun v F' => v = .int .i64 (lvP ps n : Int) ∧ F' = []) := by
  refine f_enter (args := [.pointer (some ⟨tb, 0, none⟩), .string n]) Tryz.func26 rfl Tryz.ntmps26 rfl ?_
  intro w0 w a hpre hl hh
  obtain ⟨i, hi⟩ := Option.isSome_iff_exists.1 hn
  obtain ⟨x, hx, hxn⟩ := pos_lt hi
  have hil := (List.getElem?_eq_some_iff.1 hx).1
  obtain ⟨b1, j1, hq1, hE1, hm1⟩ := row_mem hP (by omega) hpre.e
  have hmg : mget (ixf 0 ps) n = some (.int .i64 (i : Int)) := by rw [mget_ixf, hi]; simp
  have hd1 := fl_at pdc_len hx j1
  simp only [pdc] at hd1
  have hpt := hpre.t
  rw [hq1] at hpt
  have hlv := lvP_at hi hx
  have hM9 : Mem [(tb, C [.map (some mb), .slice (some ⟨b1, 0, none⟩) ps.length pc] 111), (mb, MO kStr (ixf 0 ps)), (b1, C (fl pdc ps ++ j1) 93)] w0 := fun b o m => by
    simp only [List.mem_cons, List.not_mem_nil, or_false] at m
    rcases m with m | m | m <;> cases m
    · exact hpt
    · exact hpre.m
    · exact hm1
  simp only [slotsFrom, Nat.reduceAdd] at hl
  refine c_seq ?_
  refine c_region ?_
  refine wl (wl_val hl rfl trivial (r_assign hl rfl) ?_)
  clear hl a; intro a hl
  refine w_nil ?_
  have hl2 := hl.add (t := 0) (hl.add (t := 1) (hl.nil) rfl) rfl; clear hl; have hl := hl2; clear hl2
  refine then_normal ?_
  refine c_seq ?_
  refine c_draw [(tb, C [.map (some mb), .slice (some ⟨b1, 0, none⟩) ps.length pc] 111), (mb, MO kStr (ixf 0 ps)), (b1, C (fl pdc ps ++ j1) 93)] [13] mixed hh ?_
  clear hh w; intro w hh
  have hM : Mem [(tb, C [.map (some mb), .slice (some ⟨b1, 0, none⟩) ps.length pc] 111), (mb, MO kStr (ixf 0 ps)), (b1, C (fl pdc ps ++ j1) 93)] w := (mem_keep hh hM9)
  refine d_take (i := 0) hl rfl (by kernel_rfl) (by kernel_rfl) (by kernel_rfl) (by kernel_rfl) (by kernel_rfl) rfl trivial (fun _ _ _ h => h) hM (fun w hC => r_move hl rfl) rfl ?_
  clear hl a; intro a hl
  refine d_take (i := 1) hl rfl (by kernel_rfl) (by kernel_rfl) (by kernel_rfl) (by kernel_rfl) (by kernel_rfl) rfl trivial (fun _ _ _ h => h) hM (fun w hC => r_nilCheck hl rfl) rfl ?_
  clear hl a; intro a hl
  refine d_take (i := 2) hl rfl (by kernel_rfl) (by kernel_rfl) (by kernel_rfl) (by kernel_rfl) (by kernel_rfl) rfl trivial (fun _ _ _ h => h) hM (fun w hC => r_field hl rfl fld111_1) rfl ?_
  clear hl a; intro a hl
  refine d_take (i := 3) hl rfl (by kernel_rfl) (by kernel_rfl) (by kernel_rfl) (by kernel_rfl) (by kernel_rfl) rfl trivial (fun _ _ _ h => h) hM (fun w hC => r_loadC hl rfl one31 hC (by repeat (first | exact find_head | apply find_tail)) (by first | exact fl_cell pdc_len hx rfl j1 | rfl)) rfl ?_
  clear hl a; intro a hl
  refine d_take (i := 4) hl rfl (by kernel_rfl) (by kernel_rfl) (by kernel_rfl) (by kernel_rfl) (by kernel_rfl) rfl trivial (fun _ _ _ h => h) hM (fun w hC => r_move hl rfl) rfl ?_
  clear hl a; intro a hl
  refine d_take (i := 5) hl rfl (by kernel_rfl) (by kernel_rfl) (by kernel_rfl) (by kernel_rfl) (by kernel_rfl) rfl trivial (fun _ _ _ h => h) hM (fun w hC => r_nilCheck hl rfl) rfl ?_
  clear hl a; intro a hl
  refine d_take (i := 6) hl rfl (by kernel_rfl) (by kernel_rfl) (by kernel_rfl) (by kernel_rfl) (by kernel_rfl) rfl trivial (fun _ _ _ h => h) hM (fun w hC => r_field hl rfl fld111_0) rfl ?_
  clear hl a; intro a hl
  refine d_take (i := 7) hl rfl (by kernel_rfl) (by kernel_rfl) (by kernel_rfl) (by kernel_rfl) (by kernel_rfl) rfl trivial (fun _ _ _ h => h) hM (fun w hC => r_loadC hl rfl one87 hC (by repeat (first | exact find_head | apply find_tail)) (by first | exact fl_cell pdc_len hx rfl j1 | rfl)) rfl ?_
  clear hl a; intro a hl
  refine d_take (i := 8) hl rfl (by kernel_rfl) (by kernel_rfl) (by kernel_rfl) (by kernel_rfl) (by kernel_rfl) rfl trivial (fun _ _ _ h => h) hM (fun w hC => r_move hl rfl) rfl ?_
  clear hl a; intro a hl
  refine d_take (i := 9) hl rfl (by kernel_rfl) (by kernel_rfl) (by kernel_rfl) (by kernel_rfl) (by kernel_rfl) rfl trivial (fun _ _ _ h => h) hM (fun w hC => r_lookup (keyStr Tryz.underlying9) Tryz.underlying87 zero3 hl rfl rfl (hC _ _ (Find.mem (by repeat (first | exact find_head | apply find_tail))))) rfl ?_
  clear hl a; intro a hl
  rw [hmg] at hl
  simp only [Option.getD_some] at hl
  refine d_take (i := 10) hl rfl (by kernel_rfl) (by kernel_rfl) (by kernel_rfl) (by kernel_rfl) (by kernel_rfl) rfl trivial (fun _ _ _ h => h) hM (fun w hC => r_indexS hl rfl rfl slc31 (by omega) (by omega) (by first | (simp only [Int.reduceToNat]; rfl) | exact toNat_add1 _ | exact toNat_add2 _ _ | exact toNat_emod _ _ | exact Int.toNat_natCast _ | rfl)) rfl ?_
  clear hl a; intro a hl
  refine d_take (i := 11) hl rfl (by kernel_rfl) (by kernel_rfl) (by kernel_rfl) (by kernel_rfl) (by kernel_rfl) rfl trivial (fun _ _ _ h => h) hM (fun w hC => r_field hl rfl fld93_2) rfl ?_
  clear hl a; intro a hl
  refine d_take (i := 12) hl rfl (by kernel_rfl) (by kernel_rfl) (by kernel_rfl) (by kernel_rfl) (by kernel_rfl) rfl trivial (fun _ _ _ h => h) hM (fun w hC => r_loadC hl rfl one3 hC (by repeat (first | exact find_head | apply find_tail)) (by first | exact fl_cell pdc_len hx rfl j1 | rfl)) rfl ?_
  clear hl a; intro a hl
  refine d_takeL (i := 13) hl rfl (by kernel_rfl) (by kernel_rfl) (by kernel_rfl) (by kernel_rfl) (by kernel_rfl) rfl trivial (fun _ _ _ h => h) (fun w => r_assign hl rfl) rfl ?_
  clear hl a; intro a hl
  refine d_done (by kernel_rfl) ?_
  try clear hM
  have hl2 := hl.add (t := 4) (hl.nil) rfl; clear hl; have hl := hl2; clear hl2
  refine then_normal ?_
  refine wp_ret ?_
  refine f_ret1 (F' := []) hl hh rfl rfl (by repeat (first | exact keeps_nil | apply keeps_cons (by repeat (first | exact find_head | apply find_tail)) (by first  | rfl) | exact keeps_self | apply keeps_mv)) ?_
  exact ⟨by rw [hlv], rfl⟩

structure TcW (tc tb mb : Nat) (ps : List Pd) (pp : Option Addr) (pc : Nat) (pE : List (Nat × Obj)) (w : World) : Prop where
  t : TbW tb mb ps pp pc pE w
  c : w.heap[tc]? = some (C [.pointer (some ⟨tb, 0, none⟩)] 71)
theorem heap_keep {w0 w : World} {F : List (Nat × Obj)} {b : Nat} {o : Obj} (hh : Has [] w0 F w) (h : w0.heap[b]? = some o) : w.heap[b]? = some o :=
  mem_keep (Sc := [(b, o)]) hh (fun b' o' m => by rw [List.mem_singleton] at m; cases m; exact h) b o (List.mem_singleton.2 rfl)
theorem TbW.keep {tb mb : Nat} {ps : List Pd} {pp : Option Addr} {pc : Nat} {pE F : List (Nat × Obj)} {w0 w : World} (h : TbW tb mb ps pp pc pE w0) (hh : Has [] w0 F w) : TbW tb mb ps pp pc pE w := ⟨heap_keep hh h.t, heap_keep hh h.m, mem_keep hh h.e⟩

set_option maxHeartbeats 2000000 in
theorem lessQ_spec (tc : Nat) (tb mb : Nat) (ps : List Pd) (pp : Option Addr) (pc : Nat) (pE : List (Nat × Obj)) (hP : Row (.slice pp ps.length pc) ps.length (fl pdc ps) 3 93 pE) (hpl : ps.length ≤ 100000000) (r t : RV) (hr0 : r.ok) (ht0 : t.ok) (hr : (pos ps r.p).isSome = true) (ht : (pos ps t.p).isSome = true) : SpK Tryz.prog 25 #[.agg ⟨[.string r.p, .slice r.hp r.a.length r.hc, .slice r.bp r.ls.length r.bc]⟩, .agg ⟨[.string t.p, .slice t.hp t.a.length t.hc, .slice t.bp t.ls.length t.bc]⟩, .pointer (some ⟨tc, 0, none⟩)] (fun w => TcW tc tb mb ps pp pc pE w ∧ Mem r.E w ∧ Mem t.E w) [] (fun v F' => v = .bool (decide (cmpQ (lvP ps) r.ru t.ru < 0)) ∧ F' = []) := by
  refine f_enter (args := [.agg ⟨[.string r.p, .slice r.hp r.a.length r.hc, .slice r.bp r.ls.length r.bc]⟩, .agg ⟨[.string t.p, .slice t.hp t.a.length t.hc, .slice t.bp t.ls.length t.bc]⟩, .pointer (some ⟨tc, 0, none⟩)]) Tryz.func25 rfl Tryz.ntmps25 rfl ?_
  intro w0 w a hpre hl hh
  simp only [slotsFrom, Nat.reduceAdd] at hl
  refine c_seq ?_
  refine c_region ?_
  refine wl (w_box hl hh rfl trivial rfl rfl ?_)
  clear hl hh a w; intro k3 a w hl hh
  refine wl (w_box hl hh rfl trivial rfl rfl ?_)
  clear hl hh a w; intro k4 a w hl hh
  refine wl (wl_val hl rfl trivial (r_assign hl rfl) ?_)
  clear hl a; intro a hl
  refine w_nil ?_
  have hl2 := hl.add (t := 2) (hl.add (t := 3) (hl.add (t := 4) (hl.nil) rfl) rfl) rfl; clear hl; have hl := hl2; clear hl2
  refine then_normal ?_
  refine c_seq ?_
  refine c_draw [(tc, C [.pointer (some ⟨tb, 0, none⟩)] 71), (k3, C [.string r.p, .slice r.hp r.a.length r.hc, .slice r.bp r.ls.length r.bc] 57), (k4, C [.string t.p, .slice t.hp t.a.length t.hc, .slice t.bp t.ls.length t.bc] 57)] [9, 10, 11] mixed hh ?_
  clear hh w; intro w hh
  have hM : Mem [(tc, C [.pointer (some ⟨tb, 0, none⟩)] 71), (k3, C [.string r.p, .slice r.hp r.a.length r.hc, .slice r.bp r.ls.length r.bc] 57), (k4, C [.string t.p, .slice t.hp t.a.length t.hc, .slice t.bp t.ls.length t.bc] 57)] w := (fun b o m => by simp only [List.mem_cons, List.not_mem_nil, or_false] at m; rcases m with m | m | m <;> cases m; exact heap_keep hh hpre.1.c; exact hh.mem _ _ (Find.mem (by repeat (first | exact find_head | apply find_tail))); exact hh.mem _ _ (Find.mem (by repeat (first | exact find_head | apply find_tail))))
  refine d_take (i := 0) hl rfl (by kernel_rfl) (by kernel_rfl) (by kernel_rfl) (by kernel_rfl) (by kernel_rfl) rfl trivial (fun _ _ _ h => h) hM (fun w hC => r_loadC hl rfl one71 hC (by repeat (first | exact find_head | apply find_tail)) (by first | rfl)) rfl ?_
  clear hl a; intro a hl
  refine d_take (i := 1) hl rfl (by kernel_rfl) (by kernel_rfl) (by kernel_rfl) (by kernel_rfl) (by kernel_rfl) rfl trivial (fun _ _ _ h => h) hM (fun w hC => r_field hl rfl fld57_0) rfl ?_
  clear hl a; intro a hl
  refine d_take (i := 2) hl rfl (by kernel_rfl) (by kernel_rfl) (by kernel_rfl) (by kernel_rfl) (by kernel_rfl) rfl trivial (fun _ _ _ h => h) hM (fun w hC => r_field hl rfl fld46_0) rfl ?_
  clear hl a; intro a hl
  refine d_take (i := 3) hl rfl (by kernel_rfl) (by kernel_rfl) (by kernel_rfl) (by kernel_rfl) (by kernel_rfl) rfl trivial (fun _ _ _ h => h) hM (fun w hC => r_loadC hl rfl one9 hC (by repeat (first | exact find_head | apply find_tail)) (by first | rfl)) rfl ?_
  clear hl a; intro a hl
  refine d_take (i := 5) hl rfl (by kernel_rfl) (by kernel_rfl) (by kernel_rfl) (by kernel_rfl) (by kernel_rfl) rfl trivial (fun _ _ _ h => h) hM (fun w hC => r_loadC hl rfl one71 hC (by repeat (first | exact find_head | apply find_tail)) (by first | rfl)) rfl ?_
  clear hl a; intro a hl
  refine d_take (i := 6) hl rfl (by kernel_rfl) (by kernel_rfl) (by kernel_rfl) (by kernel_rfl) (by kernel_rfl) rfl trivial (fun _ _ _ h => h) hM (fun w hC => r_field hl rfl fld57_0) rfl ?_
  clear hl a; intro a hl
  refine d_take (i := 7) hl rfl (by kernel_rfl) (by kernel_rfl) (by kernel_rfl) (by kernel_rfl) (by kernel_rfl) rfl trivial (fun _ _ _ h => h) hM (fun w hC => r_field hl rfl fld46_0) rfl ?_
  clear hl a; intro a hl
  refine d_take (i := 8) hl rfl (by kernel_rfl) (by kernel_rfl) (by kernel_rfl) (by kernel_rfl) (by kernel_rfl) rfl trivial (fun _ _ _ h => h) hM (fun w hC => r_loadC hl rfl one9 hC (by repeat (first | exact find_head | apply find_tail)) (by first | rfl)) rfl ?_
  clear hl a; intro a hl
  refine d_one (i := 4) (by kernel_rfl) rfl ?_
  try clear hM
  refine id (w_call hl hh rfl trivial rfl cal26 rfl (stratum_spec tb mb ps pp pc pE hP hpl r.p hr) (by repeat (first | exact keeps_nil | apply keeps_cons (by repeat (first | exact find_head | apply find_tail)) (by first  | rfl) | exact keeps_self | apply keeps_mv)) (hpre.1.t.keep hh) ?_)
  clear hl hh a w; intro vc Fc a w hR hl hh
  obtain ⟨rfl, rfl⟩ := hR
  try simp only [List.cons_append, List.nil_append] at hh
  have hM : Mem [(tc, C [.pointer (some ⟨tb, 0, none⟩)] 71), (k3, C [.string r.p, .slice r.hp r.a.length r.hc, .slice r.bp r.ls.length r.bc] 57), (k4, C [.string t.p, .slice t.hp t.a.length t.hc, .slice t.bp t.ls.length t.bc] 57)] w := (fun b o m => by simp only [List.mem_cons, List.not_mem_nil, or_false] at m; rcases m with m | m | m <;> cases m; exact heap_keep hh hpre.1.c; exact hh.mem _ _ (Find.mem (by repeat (first | exact find_head | apply find_tail))); exact hh.mem _ _ (Find.mem (by repeat (first | exact find_head | apply find_tail))))
  refine d_step (fun _ => hM) ?_
  refine d_one (i := 9) (by kernel_rfl) rfl ?_
  try clear hM
  refine id (w_call hl hh rfl trivial rfl cal26 rfl (stratum_spec tb mb ps pp pc pE hP hpl t.p ht) (by repeat (first | exact keeps_nil | apply keeps_cons (by repeat (first | exact find_head | apply find_tail)) (by first  | rfl) | exact keeps_self | apply keeps_mv)) (hpre.1.t.keep hh) ?_)
  clear hl hh a w; intro vc Fc a w hR hl hh
  obtain ⟨rfl, rfl⟩ := hR
  try simp only [List.cons_append, List.nil_append] at hh
  refine d_step (fun h => absurd h (by decide)) ?_
  refine d_takeL (i := 10) hl rfl (by kernel_rfl) (by kernel_rfl) (by kernel_rfl) (by kernel_rfl) (by kernel_rfl) rfl trivial (fun _ _ _ h => h) (fun w => r_assign hl rfl) rfl ?_
  clear hl a; intro a hl
  refine d_takeL (i := 11) hl rfl (by kernel_rfl) (by kernel_rfl) (by kernel_rfl) (by kernel_rfl) (by kernel_rfl) rfl trivial (fun _ _ _ h => h) (fun w => r_assign hl rfl) rfl ?_
  clear hl a; intro a hl
  refine d_done (by kernel_rfl) ?_
  try clear hM
  have hl2 := hl.add (t := 3) (hl.add (t := 4) (hl.add (t := 6) (hl.add (t := 7) (hl.nil) rfl) rfl) rfl) rfl; clear hl; have hl := hl2; clear hl2
  refine then_normal ?_
  refine c_seq ?_
  refine c_seq ?_
  refine c_region ?_
  refine wl (wl_val hl rfl trivial (r_move hl rfl) ?_)
  clear hl a; intro a hl
  refine wl (wl_val hl rfl trivial (r_move hl rfl) ?_)
  clear hl a; intro a hl
  refine wl (wl_val hl rfl trivial (r_neq hl rfl rfl) ?_)
  clear hl a; intro a hl
  refine w_nil ?_
  have hl2 := hl.add (t := 3) (hl.add (t := 4) (hl.add (t := 6) (hl.add (t := 7) (hl.add (t := 20) (hl.nil) rfl) rfl) rfl) rfl) rfl; clear hl; have hl := hl2; clear hl2
  refine then_normal ?_
  refine c_cond hl rfl ?_ ?_
  · intro hc0
    try simp only [decide_eq_true_eq, decide_eq_false_iff_not, Bool.not_eq_true', Bool.not_eq_false', Bool.not_eq_true, Bool.not_eq_false, Bool.and_eq_true, Bool.or_eq_true, Bool.and_eq_false_iff, Bool.or_eq_false_iff, Bool.not_not, ne_eq, Int.not_lt, Int.not_le, Decidable.not_not, beq_iff_eq, bne_iff_ne] at hc0
    refine c_seq ?_
    refine c_region ?_
    refine wl (wl_val hl rfl trivial (r_move hl rfl) ?_)
    clear hl a; intro a hl
    refine wl (wl_val hl rfl trivial (r_move hl rfl) ?_)
    clear hl a; intro a hl
    refine wl (wl_val hl rfl trivial (r_lss hl rfl rfl) ?_)
    clear hl a; intro a hl
    refine wl (wl_val hl rfl trivial (r_assign hl rfl) ?_)
    clear hl a; intro a hl
    refine w_nil ?_
    have hl2 := hl.add (t := 5) (hl.nil) rfl; clear hl; have hl := hl2; clear hl2
    refine then_normal ?_
    refine wp_ret ?_
    refine then_ret ?_
    refine f_ret1 (F' := []) hl hh rfl rfl (by repeat (first | exact keeps_nil | apply keeps_cons (by repeat (first | exact find_head | apply find_tail)) (by first  | rfl) | exact keeps_self | apply keeps_mv)) ?_
    exact ⟨congrArg Value.bool (cmpQ_1 (lv := lvP ps) (x := r.ru) (y := t.ru) rfl rfl hc0), rfl⟩
  · intro hc0
    try simp only [decide_eq_true_eq, decide_eq_false_iff_not, Bool.not_eq_true', Bool.not_eq_false', Bool.not_eq_true, Bool.not_eq_false, Bool.and_eq_true, Bool.or_eq_true, Bool.and_eq_false_iff, Bool.or_eq_false_iff, Bool.not_not, ne_eq, Int.not_lt, Int.not_le, Decidable.not_not, beq_iff_eq, bne_iff_ne] at hc0
    refine wp_skip ?_
    refine then_normal ?_
    refine c_seq ?_
    refine c_region ?_
    refine wl (w_loadA hl hh rfl trivial agg57 rfl (by repeat (first | exact find_head | apply find_tail)) (by first | (simp only [List.getElem?_cons_zero, List.getElem?_cons_succ, Value.cells, List.take_zero, List.take_succ_cons, List.take_nil, List.drop_zero, List.drop_succ_cons, List.drop_nil, List.length_cons, List.length_nil, List.cons_append, List.nil_append, List.append_nil, Nat.zero_add, Nat.add_zero, Nat.reduceAdd, Nat.reduceBEq, Nat.reduceEqDiff, Nat.ble, BEq.rfl, Bool.and_true, Bool.and_self, cond_true, beq_self_eq_true]; rfl)) (by first | rfl | (simp; done)) ?_)
    clear hl a; intro a hl
    refine wl (w_loadA hl hh rfl trivial agg57 rfl (by repeat (first | exact find_head | apply find_tail)) (by first | (simp only [List.getElem?_cons_zero, List.getElem?_cons_succ, Value.cells, List.take_zero, List.take_succ_cons, List.take_nil, List.drop_zero, List.drop_succ_cons, List.drop_nil, List.length_cons, List.length_nil, List.cons_append, List.nil_append, List.append_nil, Nat.zero_add, Nat.add_zero, Nat.reduceAdd, Nat.reduceBEq, Nat.reduceEqDiff, Nat.ble, BEq.rfl, Bool.and_true, Bool.and_self, cond_true, beq_self_eq_true]; rfl)) (by first | rfl | (simp; done)) ?_)
    clear hl a; intro a hl
    refine wl (w_call hl hh rfl trivial rfl cal27 rfl (cmpR_spec r t hr0 ht0) (by repeat (first | exact keeps_nil | apply keeps_cons (by repeat (first | exact find_head | apply find_tail)) (by first  | rfl) | exact keeps_self | apply keeps_mv)) ⟨mem_keep hh hpre.2.1, mem_keep hh hpre.2.2⟩ ?_)
    clear hl hh a w; intro vc Fc a w hR hl hh
    obtain ⟨rfl, rfl⟩ := hR
    try simp only [List.cons_append, List.nil_append] at hh
    refine wl (wl_val hl rfl trivial (r_lss hl rfl rfl) ?_)
    clear hl a; intro a hl
    refine wl (wl_val hl rfl trivial (r_assign hl rfl) ?_)
    clear hl a; intro a hl
    refine w_nil ?_
    have hl2 := hl.add (t := 5) (hl.nil) rfl; clear hl; have hl := hl2; clear hl2
    refine then_normal ?_
    refine wp_ret ?_
    refine f_ret1 (F' := []) hl hh rfl rfl (by repeat (first | exact keeps_nil | apply keeps_cons (by repeat (first | exact find_head | apply find_tail)) (by first  | rfl) | exact keeps_self | apply keeps_mv)) ?_
    exact ⟨by rw [cmpQ_0 (lv := lvP ps) (x := r.ru) (y := t.ru) rfl rfl hc0], rfl⟩
end Go.Proofs.Qxb6500915aGreatDoor

import Derived.Test.Qxb6500908aGreatZg
import Derived.Test.Qxb6500908aGreatZ3
namespace Go.Proofs.Qxb6500908aGreat
open Go.Eng
set_option linter.unusedVariables false
set_option linter.unusedSimpArgs false
theorem slc72 : slcOk Tryz.prog 72 1 = true := by kernel_rfl
theorem slc73 : slcOk Tryz.prog 73 64 = true := by kernel_rfl
theorem cal118 : callable Tryz.prog 118 = true := by kernel_rfl
theorem fld32_0 : fieldOk Tryz.prog 32 0 0 = true := by kernel_rfl
theorem fld30_0 : fieldOk Tryz.prog 30 0 0 = true := by kernel_rfl
theorem one28 : oneOk Tryz.prog 28 = true := by kernel_rfl
theorem fld55_0 : fieldOk Tryz.prog 55 0 0 = true := by kernel_rfl
theorem fld32_1 : fieldOk Tryz.prog 32 1 1 = true := by kernel_rfl
theorem one26 : oneOk Tryz.prog 26 = true := by kernel_rfl
theorem cal13 : callable Tryz.prog 13 = true := by kernel_rfl
theorem mget_key : ∀ {l : List (Int × Value)} {a : Int}, (mget l a).isSome = true ↔ a ∈ l.map Prod.fst
  | [], a => by simp [mget]
  | q :: t, a => by
    unfold mget
    rw [List.map_cons, List.mem_cons]
    split
    · rename_i e; simp [e]
    · rename_i e
      rw [mget_key (l := t)]
      exact ⟨fun h => .inr h, fun h => h.resolve_left e⟩
/-- two maps that say the same have equally many keys -/
theorem vd_len {s : StV} {d : DuV} {Z Y : List (Nat × Obj)} (hs : s.ok Z) (hd : d.ok Y) (h : s.pl = d.pl) : s.vd.length = d.vd.length := by
  have e : ∀ i, vdN (mget s.vd i) = vdN (mget d.vd i) := fun i => congrFun (congrArg StP.vd h) i
  have k1 : ∀ i, (vdN (mget s.vd i)).isSome = (mget s.vd i).isSome := fun i => by
    cases h1 : mget s.vd i with
    | none => rfl
    | some v => obtain ⟨x, rfl, _⟩ := hs.vd i v h1; rfl
  have k2 : ∀ i, (vdN (mget d.vd i)).isSome = (mget d.vd i).isSome := fun i => by
    cases h1 : mget d.vd i with
    | none => rfl
    | some v => obtain ⟨x, rfl, _⟩ := hd.vd i v h1; rfl
  have e2 : ∀ i, i ∈ s.vd.map Prod.fst ↔ i ∈ d.vd.map Prod.fst := fun i => by
    rw [← mget_key, ← mget_key, ← k1, ← k2, e]
  have l1 := List.Nodup.length_le_of_subset hs.vk (fun i hi => (e2 i).1 hi)
  have l2 := List.Nodup.length_le_of_subset hd.vk (fun i hi => (e2 i).2 hi)
  rw [List.length_map, List.length_map] at l1 l2
  omega
theorem vd_at {s : StV} {d : DuV} {Z Y : List (Nat × Obj)} (hs : s.ok Z) (hd : d.ok Y) (h : s.pl = d.pl) {j : Nat} {p : Int × Value} (hp : s.vd[j]? = some p) : ∃ c, p.2 = .int .u8 c ∧ mget d.vd p.1 = some (.int .u8 c) := by
  have h1 := mget_at9 hs.vk hp
  obtain ⟨x, hx, _⟩ := hs.vd _ _ h1
  refine ⟨x, hx, ?_⟩
  have e : vdN (mget s.vd p.1) = vdN (mget d.vd p.1) := congrFun (congrArg StP.vd h) p.1
  rw [h1, hx] at e
  cases h2 : mget d.vd p.1 with
  | none => rw [h2] at e; cases e
  | some v =>
    obtain ⟨y, rfl, _⟩ := hd.vd _ _ h2
    rw [h2] at e
    have : x = y := by injection e
    rw [this]
theorem vs_at {s : StV} {d : DuV} (h : s.pl = d.pl) {i : Nat} {x y : Vr} (hx : s.vs[i]? = some x) (hy : d.vs[i]? = some y) : x.id = y.id ∧ x.n.pl = y.n.pl := by
  have e : s.vs.map vrP = d.vs.map vrP := congrArg StP.vs h
  have h1 : (s.vs.map vrP)[i]? = some (vrP x) := by rw [List.getElem?_map, hx]; rfl
  rw [e, List.getElem?_map, hy] at h1
  have h2 : vrP y = vrP x := by injection h1
  exact ⟨(congrArg Prod.fst h2).symm, (congrArg Prod.snd h2).symm⟩
theorem vs_len {s : StV} {d : DuV} (h : s.pl = d.pl) : s.vs.length = d.vs.length := by
  have e : s.vs.map vrP = d.vs.map vrP := congrArg StP.vs h
  have := congrArg List.length e
  simpa using this
theorem vrc_net (x : Vr) : ((vrc x).drop (0 + 1)).take 64 = x.n.k := by
  show (x.n.k).take 64 = x.n.k
  rw [← ntk_len x.n, List.take_length]
theorem id_at9 {vs : List Vr} {i : Nat} {x : Vr} (h : vs[i]? = some x) (j : List Value) : (fl idc vs ++ j)[0 + i * 1]? = some (.int .u32 x.id) := by
  have h1 := fl_cell idc_len h (j := 0) (v := .int .u32 x.id) rfl j
  rw [Nat.add_zero] at h1; exact h1


attribute [local irreducible] NtV.k StV.c LdV.c StV.E GtV.c GtV.t DuV.c DuV.E MdV.c MdV.t

set_option maxHeartbeats 4000000 in
theorem agree_spec (Z Y : List (Nat × Obj)) (lb wb mb la : Nat) (wc : List Value) (hwc : wc[0 + 0]? = some (.pointer (some ⟨la, 0, none⟩))) (m : MdV) (l : LdV) (hl9 : l.ok Z) (hd : m.d.ok Y) (he : m.d.pl = l.d.pl) : Sp Tryz.prog 102 #[.pointer (some ⟨lb, 0, none⟩)] ((lb, C [.pointer (some ⟨wb, 0, none⟩), .pointer (some ⟨mb, 0, none⟩)] 32) :: (wb, C wc 55) :: (mb, C m.c 82) :: ((la, C l.c 91) :: (l.d.E ++ (m.d.E ++ (Y ++ Z))))) (fun v F' => v = .bool true ∧ F' = (lb, C [.pointer (some ⟨wb, 0, none⟩), .pointer (some ⟨mb, 0, none⟩)] 32) :: (wb, C wc 55) :: (mb, C m.c 82) :: ((la, C l.c 91) :: (l.d.E ++ (m.d.E ++ (Y ++ Z))))) := by
  refine f_enter (args := [.pointer (some ⟨lb, 0, none⟩)]) Tryz.func102 rfl Tryz.ntmps102 rfl ?_
  intro w0 w a hpre hl hh
  generalize hDD : List.map Prod.fst ((lb, C [.pointer (some ⟨wb, 0, none⟩), .pointer (some ⟨mb, 0, none⟩)] 32) :: (wb, C wc 55) :: (mb, C m.c 82) :: ((la, C l.c 91) :: (l.d.E ++ (m.d.E ++ (Y ++ Z))))) = D at hh ⊢
  have hvl := hd.vl; have hv1 := hd.v1
  obtain ⟨b1, j1, hq1, hjl1, hjc1, hE1⟩ := row_pos hd.a hv1
  obtain ⟨b2, j2, hq2, hjl2, hjc2, hE2⟩ := row_pos hd.n (by rw [hd.e]; exact hv1)
  have hwsl : m.d.ws.length = m.d.vs.length := by rw [hd.e]
  rw [DuV.E_eq m.d, hE1, hE2] at hh
  simp only [List.append_assoc, List.cons_append, List.nil_append] at hh
  simp only [slotsFrom, Nat.reduceAdd] at hl
  refine c_seq ?_
  refine c_region ?_
  refine wl (wl_val hl rfl trivial (r_assign hl rfl) ?_)
  clear hl a; intro a hl
  refine w_nil ?_
  have hl2 := hl.add (t := 0) (hl.nil) rfl; clear hl; have hl := hl2; clear hl2
  refine then_normal ?_
  refine c_seq ?_
  refine cut_region (fun a w => ∃ (k3 k4 : Nat) (s' : StV), (s'.ok Z ∧ s'.pl = l.d.pl) ∧ Sl 140 [(3, .pointer (some ⟨k3, 0, none⟩)), (4, .pointer (some ⟨k4, 0, none⟩))] a ∧ Has D w0 ((k3, C s'.c 89) :: (k4, C m.d.c 78) :: (lb, C [.pointer (some ⟨wb, 0, none⟩), .pointer (some ⟨mb, 0, none⟩)] 32) :: (wb, C wc 55) :: (mb, C m.c 82) :: (la, C l.c 91) :: (b1, C (fl idc m.d.vs ++ j1) 36) :: (b2, C (fl ntc m.d.ws ++ j2) 66) :: (s'.E ++ (l.d.E ++ (m.d.iE ++ ((m.d.vb, MO (kInt .u32) m.d.vd) :: (Y ++ Z)))))) w) ?_ ?_
  ·
    refine c_draw [(lb, C [.pointer (some ⟨wb, 0, none⟩), .pointer (some ⟨mb, 0, none⟩)] 32), (wb, C wc 55), (mb, C m.c 82)] [] mixed hh ?_
    clear hh w; intro w hh
    have hM : Mem [(lb, C [.pointer (some ⟨wb, 0, none⟩), .pointer (some ⟨mb, 0, none⟩)] 32), (wb, C wc 55), (mb, C m.c 82)] w := (memK hh (by repeat (first | exact keeps_nil | apply keeps_cons (by repeat (first | exact find_head | apply find_tail | apply find_skip)) (by first  | rfl) | exact keeps_self | exact keeps_left | apply keeps_app | apply keeps_mv | apply keeps_skip)))
    refine d_take (i := 0) hl rfl (by kernel_rfl) (by kernel_rfl) (by kernel_rfl) (by kernel_rfl) (by kernel_rfl) rfl trivial (fun _ _ _ h => by cases h.1) hM (fun w hC => r_move hl rfl) rfl ?_
    clear hl a; intro a hl
    refine d_take (i := 1) hl rfl (by kernel_rfl) (by kernel_rfl) (by kernel_rfl) (by kernel_rfl) (by kernel_rfl) rfl trivial (fun _ _ _ h => by cases h.1) hM (fun w hC => r_nilCheck hl rfl) rfl ?_
    clear hl a; intro a hl
    refine d_take (i := 2) hl rfl (by kernel_rfl) (by kernel_rfl) (by kernel_rfl) (by kernel_rfl) (by kernel_rfl) rfl trivial (fun _ _ _ h => by cases h.1) hM (fun w hC => r_field hl rfl fld32_0) rfl ?_
    clear hl a; intro a hl
    refine d_take (i := 3) hl rfl (by kernel_rfl) (by kernel_rfl) (by kernel_rfl) (by kernel_rfl) (by kernel_rfl) rfl trivial (fun _ _ _ h => by cases h.1) hM (fun w hC => r_field hl rfl fld30_0) rfl ?_
    clear hl a; intro a hl
    refine d_take (i := 4) hl rfl (by kernel_rfl) (by kernel_rfl) (by kernel_rfl) (by kernel_rfl) (by kernel_rfl) rfl trivial (fun _ _ _ h => by cases h.1) hM (fun w hC => r_loadC hl rfl one28 hC (by repeat (first | exact find_head | apply find_tail | apply find_skip)) (by first | exact mdc_ep _ | exact mdc_a _ | exact mdc_n _ | exact mdc_i _ | exact mdc_ph _ | exact mdc_fid _ | exact mdc_vd _ | exact mdc_up _ | exact mdc_q _ | exact mdc_rf _ | exact mdc_tk _ | exact mdc_au _ | exact mdc_fl _ | exact mdc_fu _ | exact mdc_kp _ | exact duc_ep _ | exact duc_a _ | exact duc_n _ | exact duc_i _ | exact duc_ph _ | exact duc_fid _ | exact duc_vd _ | exact hwc | rfl | exact vrc_id x | exact hyd | exact stc_ph' _ | exact stc_fid' _ | exact stc_vd' _ | exact stc_ep' _ | exact stc_vs' _ | exact stc_is' _ | rfl)) rfl ?_
    clear hl a; intro a hl
    refine d_take (i := 5) hl rfl (by kernel_rfl) (by kernel_rfl) (by kernel_rfl) (by kernel_rfl) (by kernel_rfl) rfl trivial (fun _ _ _ h => by cases h.1) hM (fun w hC => r_nilCheck hl rfl) rfl ?_
    clear hl a; intro a hl
    refine d_take (i := 6) hl rfl (by kernel_rfl) (by kernel_rfl) (by kernel_rfl) (by kernel_rfl) (by kernel_rfl) rfl trivial (fun _ _ _ h => by cases h.1) hM (fun w hC => r_field hl rfl fld55_0) rfl ?_
    clear hl a; intro a hl
    refine d_take (i := 7) hl rfl (by kernel_rfl) (by kernel_rfl) (by kernel_rfl) (by kernel_rfl) (by kernel_rfl) rfl trivial (fun _ _ _ h => by cases h.1) hM (fun w hC => r_loadC hl rfl one48 hC (by repeat (first | exact find_head | apply find_tail | apply find_skip)) (by first | exact mdc_ep _ | exact mdc_a _ | exact mdc_n _ | exact mdc_i _ | exact mdc_ph _ | exact mdc_fid _ | exact mdc_vd _ | exact mdc_up _ | exact mdc_q _ | exact mdc_rf _ | exact mdc_tk _ | exact mdc_au _ | exact mdc_fl _ | exact mdc_fu _ | exact mdc_kp _ | exact duc_ep _ | exact duc_a _ | exact duc_n _ | exact duc_i _ | exact duc_ph _ | exact duc_fid _ | exact duc_vd _ | exact hwc | rfl | exact vrc_id x | exact hyd | exact stc_ph' _ | exact stc_fid' _ | exact stc_vd' _ | exact stc_ep' _ | exact stc_vs' _ | exact stc_is' _ | rfl)) rfl ?_
    clear hl a; intro a hl
    refine d_take (i := 9) hl rfl (by kernel_rfl) (by kernel_rfl) (by kernel_rfl) (by kernel_rfl) (by kernel_rfl) rfl trivial (fun _ _ _ h => by cases h.1) hM (fun w hC => r_move hl rfl) rfl ?_
    clear hl a; intro a hl
    refine d_take (i := 10) hl rfl (by kernel_rfl) (by kernel_rfl) (by kernel_rfl) (by kernel_rfl) (by kernel_rfl) rfl trivial (fun _ _ _ h => by cases h.1) hM (fun w hC => r_nilCheck hl rfl) rfl ?_
    clear hl a; intro a hl
    refine d_take (i := 11) hl rfl (by kernel_rfl) (by kernel_rfl) (by kernel_rfl) (by kernel_rfl) (by kernel_rfl) rfl trivial (fun _ _ _ h => by cases h.1) hM (fun w hC => r_field hl rfl fld32_1) rfl ?_
    clear hl a; intro a hl
    refine d_take (i := 12) hl rfl (by kernel_rfl) (by kernel_rfl) (by kernel_rfl) (by kernel_rfl) (by kernel_rfl) rfl trivial (fun _ _ _ h => by cases h.1) hM (fun w hC => r_loadC hl rfl one26 hC (by repeat (first | exact find_head | apply find_tail | apply find_skip)) (by first | exact mdc_ep _ | exact mdc_a _ | exact mdc_n _ | exact mdc_i _ | exact mdc_ph _ | exact mdc_fid _ | exact mdc_vd _ | exact mdc_up _ | exact mdc_q _ | exact mdc_rf _ | exact mdc_tk _ | exact mdc_au _ | exact mdc_fl _ | exact mdc_fu _ | exact mdc_kp _ | exact duc_ep _ | exact duc_a _ | exact duc_n _ | exact duc_i _ | exact duc_ph _ | exact duc_fid _ | exact duc_vd _ | exact hwc | rfl | exact vrc_id x | exact hyd | exact stc_ph' _ | exact stc_fid' _ | exact stc_vd' _ | exact stc_ep' _ | exact stc_vs' _ | exact stc_is' _ | rfl)) rfl ?_
    clear hl a; intro a hl
    refine d_take (i := 13) hl rfl (by kernel_rfl) (by kernel_rfl) (by kernel_rfl) (by kernel_rfl) (by kernel_rfl) rfl trivial (fun _ _ _ h => by cases h.1) hM (fun w hC => r_nilCheck hl rfl) rfl ?_
    clear hl a; intro a hl
    refine d_take (i := 14) hl rfl (by kernel_rfl) (by kernel_rfl) (by kernel_rfl) (by kernel_rfl) (by kernel_rfl) rfl trivial (fun _ _ _ h => by cases h.1) hM (fun w hC => r_field hl rfl fld82_0) rfl ?_
    clear hl a; intro a hl
    refine d_take (i := 15) hl rfl (by kernel_rfl) (by kernel_rfl) (by kernel_rfl) (by kernel_rfl) (by kernel_rfl) rfl trivial (fun _ _ _ h => by cases h.1) hM (fun w hC => r_loadCA hl rfl agg78 hC (by repeat (first | exact find_head | apply find_tail | apply find_skip)) (by first | exact duc_all _ | exact mdc_d _) (by exact duc_len _)) rfl ?_
    clear hl a; intro a hl
    refine d_three (i := 8) (j := 16) (k := 17) (by kernel_rfl) rfl rfl rfl ?_ ?_ ?_
    ·
      try clear hM
      refine id (w_call hl hh rfl trivial rfl cal13 rfl (durable_spec Z la l hl9) (by repeat (first | exact keeps_nil | apply keeps_cons (by repeat (first | exact find_head | apply find_tail | apply find_skip)) (by first  | rfl) | exact keeps_self | exact keeps_left | apply keeps_app | apply keeps_mv | apply keeps_skip)) trivial ?_)
      clear hl hh a w; intro vc Fc a w hR hl hh
      obtain ⟨s', hs', hp', rfl, rfl⟩ := hR
      try simp only [List.cons_append, List.nil_append, List.append_assoc, List.append_nil] at hh
      simp only [LdV.F, List.cons_append] at hh
      try simp only [List.append_assoc, List.cons_append, List.nil_append] at hh
      have hM : Mem [(lb, C [.pointer (some ⟨wb, 0, none⟩), .pointer (some ⟨mb, 0, none⟩)] 32), (wb, C wc 55), (mb, C m.c 82)] w := (memK hh (by repeat (first | exact keeps_nil | apply keeps_cons (by repeat (first | exact find_head | apply find_tail | apply find_skip)) (by first  | rfl) | exact keeps_self | exact keeps_left | apply keeps_app | apply keeps_mv | apply keeps_skip)))
      refine d_step (fun _ => hM) ?_
      refine d_two (i := 16) (j := 17) (by kernel_rfl) rfl rfl ?_ ?_
      ·
        try clear hM
        refine id (w_alloc hl hh rfl trivial zero89 rfl ?_)
        clear hl hh a w; intro k3 a w hl hh
        have hM : Mem [(lb, C [.pointer (some ⟨wb, 0, none⟩), .pointer (some ⟨mb, 0, none⟩)] 32), (wb, C wc 55), (mb, C m.c 82)] w := (memK hh (by repeat (first | exact keeps_nil | apply keeps_cons (by repeat (first | exact find_head | apply find_tail | apply find_skip)) (by first  | rfl) | exact keeps_self | exact keeps_left | apply keeps_app | apply keeps_mv | apply keeps_skip)))
        refine d_step (fun _ => hM) ?_
        refine d_one (i := 17) (by kernel_rfl) rfl ?_
        try clear hM
        refine id (w_alloc hl hh rfl trivial zero78 rfl ?_)
        clear hl hh a w; intro k4 a w hl hh
        have hM : Mem [(lb, C [.pointer (some ⟨wb, 0, none⟩), .pointer (some ⟨mb, 0, none⟩)] 32), (wb, C wc 55), (mb, C m.c 82)] w := (memK hh (by repeat (first | exact keeps_nil | apply keeps_cons (by repeat (first | exact find_head | apply find_tail | apply find_skip)) (by first  | rfl) | exact keeps_self | exact keeps_left | apply keeps_app | apply keeps_mv | apply keeps_skip)))
        refine d_step (fun _ => hM) ?_
        refine d_one (i := 18) (by kernel_rfl) rfl ?_
        try clear hM
        refine id (w_storeA hl hh trivial agg89 rfl rfl (by repeat (first | exact find_head | apply find_tail | apply find_skip)) (by exact stc_len _) (by exact Nat.le_refl 70) (by exact stc_one _) (by exact setL_all (show 70 = _ from (stc_len _).symm)) ?_)
        clear hh w; intro w hh
        have hM : Mem [(lb, C [.pointer (some ⟨wb, 0, none⟩), .pointer (some ⟨mb, 0, none⟩)] 32), (wb, C wc 55), (mb, C m.c 82)] w := (memK hh (by repeat (first | exact keeps_nil | apply keeps_cons (by repeat (first | exact find_head | apply find_tail | apply find_skip)) (by first  | rfl) | exact keeps_self | exact keeps_left | apply keeps_app | apply keeps_mv | apply keeps_skip)))
        refine d_step (fun _ => hM) ?_
        refine d_one (i := 19) (by kernel_rfl) rfl ?_
        try clear hM
        refine id (w_storeA hl hh trivial agg78 rfl rfl (by repeat (first | exact find_head | apply find_tail | apply find_skip)) (by exact duc_len _) (by first | exact Nat.le_refl 71 | (rw [mdc_len]; omega)) (by exact duc_one _) (by first | exact setL_all (show 71 = _ from (duc_len _).symm) | exact mdc_sd _ _) ?_)
        clear hh w; intro w hh
        have hM : Mem [(lb, C [.pointer (some ⟨wb, 0, none⟩), .pointer (some ⟨mb, 0, none⟩)] 32), (wb, C wc 55), (mb, C m.c 82)] w := (memK hh (by repeat (first | exact keeps_nil | apply keeps_cons (by repeat (first | exact find_head | apply find_tail | apply find_skip)) (by first  | rfl) | exact keeps_self | exact keeps_left | apply keeps_app | apply keeps_mv | apply keeps_skip)))
        refine d_step (fun _ => hM) ?_
        refine d_done (by kernel_rfl) ?_
        try clear hM
        exact ⟨rfl, k3, k4, s', ⟨hs', hp'⟩, hl.addE (t := 3) (hl.addE (t := 4) (hl.nil) rfl (by first | rfl)) rfl (by first | rfl), hh.keep (by repeat (first | exact keeps_nil | apply keeps_cons (by repeat (first | exact find_head | apply find_tail | apply find_skip)) (by first  | rfl) | exact keeps_self | exact keeps_left | apply keeps_app | apply keeps_mv | apply keeps_skip))⟩
      ·
        try clear hM
        refine id (w_alloc hl hh rfl trivial zero78 rfl ?_)
        clear hl hh a w; intro k4 a w hl hh
        have hM : Mem [(lb, C [.pointer (some ⟨wb, 0, none⟩), .pointer (some ⟨mb, 0, none⟩)] 32), (wb, C wc 55), (mb, C m.c 82)] w := (memK hh (by repeat (first | exact keeps_nil | apply keeps_cons (by repeat (first | exact find_head | apply find_tail | apply find_skip)) (by first  | rfl) | exact keeps_self | exact keeps_left | apply keeps_app | apply keeps_mv | apply keeps_skip)))
        refine d_step (fun _ => hM) ?_
        refine d_one (i := 16) (by kernel_rfl) rfl ?_
        try clear hM
        refine id (w_alloc hl hh rfl trivial zero89 rfl ?_)
        clear hl hh a w; intro k3 a w hl hh
        have hM : Mem [(lb, C [.pointer (some ⟨wb, 0, none⟩), .pointer (some ⟨mb, 0, none⟩)] 32), (wb, C wc 55), (mb, C m.c 82)] w := (memK hh (by repeat (first | exact keeps_nil | apply keeps_cons (by repeat (first | exact find_head | apply find_tail | apply find_skip)) (by first  | rfl) | exact keeps_self | exact keeps_left | apply keeps_app | apply keeps_mv | apply keeps_skip)))
        refine d_step (fun _ => hM) ?_
        refine d_one (i := 18) (by kernel_rfl) rfl ?_
        try clear hM
        refine id (w_storeA hl hh trivial agg89 rfl rfl (by repeat (first | exact find_head | apply find_tail | apply find_skip)) (by exact stc_len _) (by exact Nat.le_refl 70) (by exact stc_one _) (by exact setL_all (show 70 = _ from (stc_len _).symm)) ?_)
        clear hh w; intro w hh
        have hM : Mem [(lb, C [.pointer (some ⟨wb, 0, none⟩), .pointer (some ⟨mb, 0, none⟩)] 32), (wb, C wc 55), (mb, C m.c 82)] w := (memK hh (by repeat (first | exact keeps_nil | apply keeps_cons (by repeat (first | exact find_head | apply find_tail | apply find_skip)) (by first  | rfl) | exact keeps_self | exact keeps_left | apply keeps_app | apply keeps_mv | apply keeps_skip)))
        refine d_step (fun _ => hM) ?_
        refine d_one (i := 19) (by kernel_rfl) rfl ?_
        try clear hM
        refine id (w_storeA hl hh trivial agg78 rfl rfl (by repeat (first | exact find_head | apply find_tail | apply find_skip)) (by exact duc_len _) (by first | exact Nat.le_refl 71 | (rw [mdc_len]; omega)) (by exact duc_one _) (by first | exact setL_all (show 71 = _ from (duc_len _).symm) | exact mdc_sd _ _) ?_)
        clear hh w; intro w hh
        have hM : Mem [(lb, C [.pointer (some ⟨wb, 0, none⟩), .pointer (some ⟨mb, 0, none⟩)] 32), (wb, C wc 55), (mb, C m.c 82)] w := (memK hh (by repeat (first | exact keeps_nil | apply keeps_cons (by repeat (first | exact find_head | apply find_tail | apply find_skip)) (by first  | rfl) | exact keeps_self | exact keeps_left | apply keeps_app | apply keeps_mv | apply keeps_skip)))
        refine d_step (fun _ => hM) ?_
        refine d_done (by kernel_rfl) ?_
        try clear hM
        exact ⟨rfl, k3, k4, s', ⟨hs', hp'⟩, hl.addE (t := 3) (hl.addE (t := 4) (hl.nil) rfl (by first | rfl)) rfl (by first | rfl), hh.keep (by repeat (first | exact keeps_nil | apply keeps_cons (by repeat (first | exact find_head | apply find_tail | apply find_skip)) (by first  | rfl) | exact keeps_self | exact keeps_left | apply keeps_app | apply keeps_mv | apply keeps_skip))⟩
    ·
      try clear hM
      refine id (w_alloc hl hh rfl trivial zero89 rfl ?_)
      clear hl hh a w; intro k3 a w hl hh
      have hM : Mem [(lb, C [.pointer (some ⟨wb, 0, none⟩), .pointer (some ⟨mb, 0, none⟩)] 32), (wb, C wc 55), (mb, C m.c 82)] w := (memK hh (by repeat (first | exact keeps_nil | apply keeps_cons (by repeat (first | exact find_head | apply find_tail | apply find_skip)) (by first  | rfl) | exact keeps_self | exact keeps_left | apply keeps_app | apply keeps_mv | apply keeps_skip)))
      refine d_step (fun _ => hM) ?_
      refine d_two (i := 8) (j := 17) (by kernel_rfl) rfl rfl ?_ ?_
      ·
        try clear hM
        refine id (w_call hl hh rfl trivial rfl cal13 rfl (durable_spec Z la l hl9) (by repeat (first | exact keeps_nil | apply keeps_cons (by repeat (first | exact find_head | apply find_tail | apply find_skip)) (by first  | rfl) | exact keeps_self | exact keeps_left | apply keeps_app | apply keeps_mv | apply keeps_skip)) trivial ?_)
        clear hl hh a w; intro vc Fc a w hR hl hh
        obtain ⟨s', hs', hp', rfl, rfl⟩ := hR
        try simp only [List.cons_append, List.nil_append, List.append_assoc, List.append_nil] at hh
        simp only [LdV.F, List.cons_append] at hh
        try simp only [List.append_assoc, List.cons_append, List.nil_append] at hh
        have hM : Mem [(lb, C [.pointer (some ⟨wb, 0, none⟩), .pointer (some ⟨mb, 0, none⟩)] 32), (wb, C wc 55), (mb, C m.c 82)] w := (memK hh (by repeat (first | exact keeps_nil | apply keeps_cons (by repeat (first | exact find_head | apply find_tail | apply find_skip)) (by first  | rfl) | exact keeps_self | exact keeps_left | apply keeps_app | apply keeps_mv | apply keeps_skip)))
        refine d_step (fun _ => hM) ?_
        refine d_one (i := 17) (by kernel_rfl) rfl ?_
        try clear hM
        refine id (w_alloc hl hh rfl trivial zero78 rfl ?_)
        clear hl hh a w; intro k4 a w hl hh
        have hM : Mem [(lb, C [.pointer (some ⟨wb, 0, none⟩), .pointer (some ⟨mb, 0, none⟩)] 32), (wb, C wc 55), (mb, C m.c 82)] w := (memK hh (by repeat (first | exact keeps_nil | apply keeps_cons (by repeat (first | exact find_head | apply find_tail | apply find_skip)) (by first  | rfl) | exact keeps_self | exact keeps_left | apply keeps_app | apply keeps_mv | apply keeps_skip)))
        refine d_step (fun _ => hM) ?_
        refine d_one (i := 18) (by kernel_rfl) rfl ?_
        try clear hM
        refine id (w_storeA hl hh trivial agg89 rfl rfl (by repeat (first | exact find_head | apply find_tail | apply find_skip)) (by exact stc_len _) (by exact Nat.le_refl 70) (by exact stc_one _) (by exact setL_all (show 70 = _ from (stc_len _).symm)) ?_)
        clear hh w; intro w hh
        have hM : Mem [(lb, C [.pointer (some ⟨wb, 0, none⟩), .pointer (some ⟨mb, 0, none⟩)] 32), (wb, C wc 55), (mb, C m.c 82)] w := (memK hh (by repeat (first | exact keeps_nil | apply keeps_cons (by repeat (first | exact find_head | apply find_tail | apply find_skip)) (by first  | rfl) | exact keeps_self | exact keeps_left | apply keeps_app | apply keeps_mv | apply keeps_skip)))
        refine d_step (fun _ => hM) ?_
        refine d_one (i := 19) (by kernel_rfl) rfl ?_
        try clear hM
        refine id (w_storeA hl hh trivial agg78 rfl rfl (by repeat (first | exact find_head | apply find_tail | apply find_skip)) (by exact duc_len _) (by first | exact Nat.le_refl 71 | (rw [mdc_len]; omega)) (by exact duc_one _) (by first | exact setL_all (show 71 = _ from (duc_len _).symm) | exact mdc_sd _ _) ?_)
        clear hh w; intro w hh
        have hM : Mem [(lb, C [.pointer (some ⟨wb, 0, none⟩), .pointer (some ⟨mb, 0, none⟩)] 32), (wb, C wc 55), (mb, C m.c 82)] w := (memK hh (by repeat (first | exact keeps_nil | apply keeps_cons (by repeat (first | exact find_head | apply find_tail | apply find_skip)) (by first  | rfl) | exact keeps_self | exact keeps_left | apply keeps_app | apply keeps_mv | apply keeps_skip)))
        refine d_step (fun _ => hM) ?_
        refine d_done (by kernel_rfl) ?_
        try clear hM
        exact ⟨rfl, k3, k4, s', ⟨hs', hp'⟩, hl.addE (t := 3) (hl.addE (t := 4) (hl.nil) rfl (by first | rfl)) rfl (by first | rfl), hh.keep (by repeat (first | exact keeps_nil | apply keeps_cons (by repeat (first | exact find_head | apply find_tail | apply find_skip)) (by first  | rfl) | exact keeps_self | exact keeps_left | apply keeps_app | apply keeps_mv | apply keeps_skip))⟩
      ·
        try clear hM
        refine id (w_alloc hl hh rfl trivial zero78 rfl ?_)
        clear hl hh a w; intro k4 a w hl hh
        have hM : Mem [(lb, C [.pointer (some ⟨wb, 0, none⟩), .pointer (some ⟨mb, 0, none⟩)] 32), (wb, C wc 55), (mb, C m.c 82)] w := (memK hh (by repeat (first | exact keeps_nil | apply keeps_cons (by repeat (first | exact find_head | apply find_tail | apply find_skip)) (by first  | rfl) | exact keeps_self | exact keeps_left | apply keeps_app | apply keeps_mv | apply keeps_skip)))
        refine d_step (fun _ => hM) ?_
        refine d_one (i := 8) (by kernel_rfl) rfl ?_
        try clear hM
        refine id (w_call hl hh rfl trivial rfl cal13 rfl (durable_spec Z la l hl9) (by repeat (first | exact keeps_nil | apply keeps_cons (by repeat (first | exact find_head | apply find_tail | apply find_skip)) (by first  | rfl) | exact keeps_self | exact keeps_left | apply keeps_app | apply keeps_mv | apply keeps_skip)) trivial ?_)
        clear hl hh a w; intro vc Fc a w hR hl hh
        obtain ⟨s', hs', hp', rfl, rfl⟩ := hR
        try simp only [List.cons_append, List.nil_append, List.append_assoc, List.append_nil] at hh
        simp only [LdV.F, List.cons_append] at hh
        try simp only [List.append_assoc, List.cons_append, List.nil_append] at hh
        have hM : Mem [(lb, C [.pointer (some ⟨wb, 0, none⟩), .pointer (some ⟨mb, 0, none⟩)] 32), (wb, C wc 55), (mb, C m.c 82)] w := (memK hh (by repeat (first | exact keeps_nil | apply keeps_cons (by repeat (first | exact find_head | apply find_tail | apply find_skip)) (by first  | rfl) | exact keeps_self | exact keeps_left | apply keeps_app | apply keeps_mv | apply keeps_skip)))
        refine d_step (fun _ => hM) ?_
        refine d_one (i := 18) (by kernel_rfl) rfl ?_
        try clear hM
        refine id (w_storeA hl hh trivial agg89 rfl rfl (by repeat (first | exact find_head | apply find_tail | apply find_skip)) (by exact stc_len _) (by exact Nat.le_refl 70) (by exact stc_one _) (by exact setL_all (show 70 = _ from (stc_len _).symm)) ?_)
        clear hh w; intro w hh
        have hM : Mem [(lb, C [.pointer (some ⟨wb, 0, none⟩), .pointer (some ⟨mb, 0, none⟩)] 32), (wb, C wc 55), (mb, C m.c 82)] w := (memK hh (by repeat (first | exact keeps_nil | apply keeps_cons (by repeat (first | exact find_head | apply find_tail | apply find_skip)) (by first  | rfl) | exact keeps_self | exact keeps_left | apply keeps_app | apply keeps_mv | apply keeps_skip)))
        refine d_step (fun _ => hM) ?_
        refine d_one (i := 19) (by kernel_rfl) rfl ?_
        try clear hM
        refine id (w_storeA hl hh trivial agg78 rfl rfl (by repeat (first | exact find_head | apply find_tail | apply find_skip)) (by exact duc_len _) (by first | exact Nat.le_refl 71 | (rw [mdc_len]; omega)) (by exact duc_one _) (by first | exact setL_all (show 71 = _ from (duc_len _).symm) | exact mdc_sd _ _) ?_)
        clear hh w; intro w hh
        have hM : Mem [(lb, C [.pointer (some ⟨wb, 0, none⟩), .pointer (some ⟨mb, 0, none⟩)] 32), (wb, C wc 55), (mb, C m.c 82)] w := (memK hh (by repeat (first | exact keeps_nil | apply keeps_cons (by repeat (first | exact find_head | apply find_tail | apply find_skip)) (by first  | rfl) | exact keeps_self | exact keeps_left | apply keeps_app | apply keeps_mv | apply keeps_skip)))
        refine d_step (fun _ => hM) ?_
        refine d_done (by kernel_rfl) ?_
        try clear hM
        exact ⟨rfl, k3, k4, s', ⟨hs', hp'⟩, hl.addE (t := 3) (hl.addE (t := 4) (hl.nil) rfl (by first | rfl)) rfl (by first | rfl), hh.keep (by repeat (first | exact keeps_nil | apply keeps_cons (by repeat (first | exact find_head | apply find_tail | apply find_skip)) (by first  | rfl) | exact keeps_self | exact keeps_left | apply keeps_app | apply keeps_mv | apply keeps_skip))⟩
    ·
      try clear hM
      refine id (w_alloc hl hh rfl trivial zero78 rfl ?_)
      clear hl hh a w; intro k4 a w hl hh
      have hM : Mem [(lb, C [.pointer (some ⟨wb, 0, none⟩), .pointer (some ⟨mb, 0, none⟩)] 32), (wb, C wc 55), (mb, C m.c 82)] w := (memK hh (by repeat (first | exact keeps_nil | apply keeps_cons (by repeat (first | exact find_head | apply find_tail | apply find_skip)) (by first  | rfl) | exact keeps_self | exact keeps_left | apply keeps_app | apply keeps_mv | apply keeps_skip)))
      refine d_step (fun _ => hM) ?_
      refine d_two (i := 8) (j := 16) (by kernel_rfl) rfl rfl ?_ ?_
      ·
        try clear hM
        refine id (w_call hl hh rfl trivial rfl cal13 rfl (durable_spec Z la l hl9) (by repeat (first | exact keeps_nil | apply keeps_cons (by repeat (first | exact find_head | apply find_tail | apply find_skip)) (by first  | rfl) | exact keeps_self | exact keeps_left | apply keeps_app | apply keeps_mv | apply keeps_skip)) trivial ?_)
        clear hl hh a w; intro vc Fc a w hR hl hh
        obtain ⟨s', hs', hp', rfl, rfl⟩ := hR
        try simp only [List.cons_append, List.nil_append, List.append_assoc, List.append_nil] at hh
        simp only [LdV.F, List.cons_append] at hh
        try simp only [List.append_assoc, List.cons_append, List.nil_append] at hh
        have hM : Mem [(lb, C [.pointer (some ⟨wb, 0, none⟩), .pointer (some ⟨mb, 0, none⟩)] 32), (wb, C wc 55), (mb, C m.c 82)] w := (memK hh (by repeat (first | exact keeps_nil | apply keeps_cons (by repeat (first | exact find_head | apply find_tail | apply find_skip)) (by first  | rfl) | exact keeps_self | exact keeps_left | apply keeps_app | apply keeps_mv | apply keeps_skip)))
        refine d_step (fun _ => hM) ?_
        refine d_one (i := 16) (by kernel_rfl) rfl ?_
        try clear hM
        refine id (w_alloc hl hh rfl trivial zero89 rfl ?_)
        clear hl hh a w; intro k3 a w hl hh
        have hM : Mem [(lb, C [.pointer (some ⟨wb, 0, none⟩), .pointer (some ⟨mb, 0, none⟩)] 32), (wb, C wc 55), (mb, C m.c 82)] w := (memK hh (by repeat (first | exact keeps_nil | apply keeps_cons (by repeat (first | exact find_head | apply find_tail | apply find_skip)) (by first  | rfl) | exact keeps_self | exact keeps_left | apply keeps_app | apply keeps_mv | apply keeps_skip)))
        refine d_step (fun _ => hM) ?_
        refine d_one (i := 18) (by kernel_rfl) rfl ?_
        try clear hM
        refine id (w_storeA hl hh trivial agg89 rfl rfl (by repeat (first | exact find_head | apply find_tail | apply find_skip)) (by exact stc_len _) (by exact Nat.le_refl 70) (by exact stc_one _) (by exact setL_all (show 70 = _ from (stc_len _).symm)) ?_)
        clear hh w; intro w hh
        have hM : Mem [(lb, C [.pointer (some ⟨wb, 0, none⟩), .pointer (some ⟨mb, 0, none⟩)] 32), (wb, C wc 55), (mb, C m.c 82)] w := (memK hh (by repeat (first | exact keeps_nil | apply keeps_cons (by repeat (first | exact find_head | apply find_tail | apply find_skip)) (by first  | rfl) | exact keeps_self | exact keeps_left | apply keeps_app | apply keeps_mv | apply keeps_skip)))
        refine d_step (fun _ => hM) ?_
        refine d_one (i := 19) (by kernel_rfl) rfl ?_
        try clear hM
        refine id (w_storeA hl hh trivial agg78 rfl rfl (by repeat (first | exact find_head | apply find_tail | apply find_skip)) (by exact duc_len _) (by first | exact Nat.le_refl 71 | (rw [mdc_len]; omega)) (by exact duc_one _) (by first | exact setL_all (show 71 = _ from (duc_len _).symm) | exact mdc_sd _ _) ?_)
        clear hh w; intro w hh
        have hM : Mem [(lb, C [.pointer (some ⟨wb, 0, none⟩), .pointer (some ⟨mb, 0, none⟩)] 32), (wb, C wc 55), (mb, C m.c 82)] w := (memK hh (by repeat (first | exact keeps_nil | apply keeps_cons (by repeat (first | exact find_head | apply find_tail | apply find_skip)) (by first  | rfl) | exact keeps_self | exact keeps_left | apply keeps_app | apply keeps_mv | apply keeps_skip)))
        refine d_step (fun _ => hM) ?_
        refine d_done (by kernel_rfl) ?_
        try clear hM
        exact ⟨rfl, k3, k4, s', ⟨hs', hp'⟩, hl.addE (t := 3) (hl.addE (t := 4) (hl.nil) rfl (by first | rfl)) rfl (by first | rfl), hh.keep (by repeat (first | exact keeps_nil | apply keeps_cons (by repeat (first | exact find_head | apply find_tail | apply find_skip)) (by first  | rfl) | exact keeps_self | exact keeps_left | apply keeps_app | apply keeps_mv | apply keeps_skip))⟩
      ·
        try clear hM
        refine id (w_alloc hl hh rfl trivial zero89 rfl ?_)
        clear hl hh a w; intro k3 a w hl hh
        have hM : Mem [(lb, C [.pointer (some ⟨wb, 0, none⟩), .pointer (some ⟨mb, 0, none⟩)] 32), (wb, C wc 55), (mb, C m.c 82)] w := (memK hh (by repeat (first | exact keeps_nil | apply keeps_cons (by repeat (first | exact find_head | apply find_tail | apply find_skip)) (by first  | rfl) | exact keeps_self | exact keeps_left | apply keeps_app | apply keeps_mv | apply keeps_skip)))
        refine d_step (fun _ => hM) ?_
        refine d_one (i := 8) (by kernel_rfl) rfl ?_
        try clear hM
        refine id (w_call hl hh rfl trivial rfl cal13 rfl (durable_spec Z la l hl9) (by repeat (first | exact keeps_nil | apply keeps_cons (by repeat (first | exact find_head | apply find_tail | apply find_skip)) (by first  | rfl) | exact keeps_self | exact keeps_left | apply keeps_app | apply keeps_mv | apply keeps_skip)) trivial ?_)
        clear hl hh a w; intro vc Fc a w hR hl hh
        obtain ⟨s', hs', hp', rfl, rfl⟩ := hR
        try simp only [List.cons_append, List.nil_append, List.append_assoc, List.append_nil] at hh
        simp only [LdV.F, List.cons_append] at hh
        try simp only [List.append_assoc, List.cons_append, List.nil_append] at hh
        have hM : Mem [(lb, C [.pointer (some ⟨wb, 0, none⟩), .pointer (some ⟨mb, 0, none⟩)] 32), (wb, C wc 55), (mb, C m.c 82)] w := (memK hh (by repeat (first | exact keeps_nil | apply keeps_cons (by repeat (first | exact find_head | apply find_tail | apply find_skip)) (by first  | rfl) | exact keeps_self | exact keeps_left | apply keeps_app | apply keeps_mv | apply keeps_skip)))
        refine d_step (fun _ => hM) ?_
        refine d_one (i := 18) (by kernel_rfl) rfl ?_
        try clear hM
        refine id (w_storeA hl hh trivial agg89 rfl rfl (by repeat (first | exact find_head | apply find_tail | apply find_skip)) (by exact stc_len _) (by exact Nat.le_refl 70) (by exact stc_one _) (by exact setL_all (show 70 = _ from (stc_len _).symm)) ?_)
        clear hh w; intro w hh
        have hM : Mem [(lb, C [.pointer (some ⟨wb, 0, none⟩), .pointer (some ⟨mb, 0, none⟩)] 32), (wb, C wc 55), (mb, C m.c 82)] w := (memK hh (by repeat (first | exact keeps_nil | apply keeps_cons (by repeat (first | exact find_head | apply find_tail | apply find_skip)) (by first  | rfl) | exact keeps_self | exact keeps_left | apply keeps_app | apply keeps_mv | apply keeps_skip)))
        refine d_step (fun _ => hM) ?_
        refine d_one (i := 19) (by kernel_rfl) rfl ?_
        try clear hM
        refine id (w_storeA hl hh trivial agg78 rfl rfl (by repeat (first | exact find_head | apply find_tail | apply find_skip)) (by exact duc_len _) (by first | exact Nat.le_refl 71 | (rw [mdc_len]; omega)) (by exact duc_one _) (by first | exact setL_all (show 71 = _ from (duc_len _).symm) | exact mdc_sd _ _) ?_)
        clear hh w; intro w hh
        have hM : Mem [(lb, C [.pointer (some ⟨wb, 0, none⟩), .pointer (some ⟨mb, 0, none⟩)] 32), (wb, C wc 55), (mb, C m.c 82)] w := (memK hh (by repeat (first | exact keeps_nil | apply keeps_cons (by repeat (first | exact find_head | apply find_tail | apply find_skip)) (by first  | rfl) | exact keeps_self | exact keeps_left | apply keeps_app | apply keeps_mv | apply keeps_skip)))
        refine d_step (fun _ => hM) ?_
        refine d_done (by kernel_rfl) ?_
        try clear hM
        exact ⟨rfl, k3, k4, s', ⟨hs', hp'⟩, hl.addE (t := 3) (hl.addE (t := 4) (hl.nil) rfl (by first | rfl)) rfl (by first | rfl), hh.keep (by repeat (first | exact keeps_nil | apply keeps_cons (by repeat (first | exact find_head | apply find_tail | apply find_skip)) (by first  | rfl) | exact keeps_self | exact keeps_left | apply keeps_app | apply keeps_mv | apply keeps_skip))⟩
  ·
    clear hl hh a w; intro a w hI
    obtain ⟨k3, k4, s', ⟨hs', hp'⟩, hl, hh⟩ := hI
    have hl2 := hl.add (t := 3) (hl.add (t := 4) (hl.nil) rfl) rfl; clear hl; have hl := hl2; clear hl2
    rw [StV.E_eq s'] at hh
    obtain ⟨b3, j3, hq3, hjl3, hjc3, hE3⟩ := row_pos hs'.v hs'.v1
    rw [hE3] at hh
    simp only [List.append_assoc, List.cons_append, List.nil_append] at hh
    have hpm : s'.pl = m.d.pl := hp'.trans he.symm
    have hep : s'.ep = m.d.ep := congrArg StP.ep hpm
    have hfid : s'.fid = m.d.fid := congrArg StP.fid hpm
    have hph : s'.ph = m.d.ph := congrArg StP.ph hpm
    have hfn : s'.fn.pl = m.d.fn.pl := congrArg StP.fn hpm
    have his : s'.is = m.d.is := congrArg StP.is hpm
    have hisl : s'.is.length = m.d.is.length := by rw [his]
    have hvsl := vs_len hpm
    have hvdl := vd_len hs' hd hpm
    have hil := hs'.il
    refine then_normal ?_
    refine c_seq ?_
    refine c_seq ?_
    refine c_region ?_
    refine wl (wl_val hl rfl trivial (r_field hl rfl fld89_0) ?_)
    clear hl a; intro a hl
    refine wl (w_load hl hh rfl trivial one36 rfl (by repeat (first | exact find_head | apply find_tail | apply find_skip)) (by first | exact mdc_ep _ | exact mdc_a _ | exact mdc_n _ | exact mdc_i _ | exact mdc_ph _ | exact mdc_fid _ | exact mdc_vd _ | exact mdc_up _ | exact mdc_q _ | exact mdc_rf _ | exact mdc_tk _ | exact mdc_au _ | exact mdc_fl _ | exact mdc_fu _ | exact mdc_kp _ | exact duc_ep _ | exact duc_a _ | exact duc_n _ | exact duc_i _ | exact duc_ph _ | exact duc_fid _ | exact duc_vd _ | exact hwc | rfl | exact vrc_id x | exact hyd | exact stc_ph' _ | exact stc_fid' _ | exact stc_vd' _ | exact stc_ep' _ | exact stc_vs' _ | exact stc_is' _ | rfl) ?_)
    clear hl a; intro a hl
    refine wl (wl_val hl rfl trivial (r_field hl rfl fld78_0) ?_)
    clear hl a; intro a hl
    refine wl (w_load hl hh rfl trivial one36 rfl (by repeat (first | exact find_head | apply find_tail | apply find_skip)) (by first | exact mdc_ep _ | exact mdc_a _ | exact mdc_n _ | exact mdc_i _ | exact mdc_ph _ | exact mdc_fid _ | exact mdc_vd _ | exact mdc_up _ | exact mdc_q _ | exact mdc_rf _ | exact mdc_tk _ | exact mdc_au _ | exact mdc_fl _ | exact mdc_fu _ | exact mdc_kp _ | exact duc_ep _ | exact duc_a _ | exact duc_n _ | exact duc_i _ | exact duc_ph _ | exact duc_fid _ | exact duc_vd _ | exact hwc | rfl | exact vrc_id x | exact hyd | exact stc_ph' _ | exact stc_fid' _ | exact stc_vd' _ | exact stc_ep' _ | exact stc_vs' _ | exact stc_is' _ | rfl) ?_)
    clear hl a; intro a hl
    refine wl (wl_val hl rfl trivial (r_neq hl rfl rfl) ?_)
    clear hl a; intro a hl
    refine wl (wl_val hl rfl trivial (r_move hl rfl) ?_)
    clear hl a; intro a hl
    refine sl_split (t := 32) hl rfl ?_ ?_
    · intro hg1; clear hl; intro hl
      try simp only [decide_eq_true_eq, decide_eq_false_iff_not, Bool.not_eq_true', Bool.not_eq_false', Bool.not_eq_true, Bool.not_eq_false, Bool.and_eq_true, Bool.or_eq_true, Bool.and_eq_false_iff, Bool.or_eq_false_iff, Bool.not_not, ne_eq, Int.not_lt, Int.not_le, Decidable.not_not, beq_iff_eq, bne_iff_ne] at hg1
      exfalso; first | contradiction | omega | exact absurd rfl hc7 | (simp at hc3; done) | (rw [heq] at hc5; cases hc5)
    · intro hg1; clear hl; intro hl
      try simp only [decide_eq_true_eq, decide_eq_false_iff_not, Bool.not_eq_true', Bool.not_eq_false', Bool.not_eq_true, Bool.not_eq_false, Bool.and_eq_true, Bool.or_eq_true, Bool.and_eq_false_iff, Bool.or_eq_false_iff, Bool.not_not, ne_eq, Int.not_lt, Int.not_le, Decidable.not_not, beq_iff_eq, bne_iff_ne] at hg1
      refine wl (wl_val hl rfl ⟨_, _, rfl, rfl, rfl⟩ (r_field hl rfl fld89_3) ?_)
      clear hl a; intro a hl
      refine wl (wl_val hl rfl ⟨_, _, rfl, rfl, rfl⟩ (r_field hl rfl fld87_0) ?_)
      clear hl a; intro a hl
      refine wl (w_load hl hh rfl ⟨_, _, rfl, rfl, rfl⟩ one36 rfl (by repeat (first | exact find_head | apply find_tail | apply find_skip)) (by first | exact mdc_ep _ | exact mdc_a _ | exact mdc_n _ | exact mdc_i _ | exact mdc_ph _ | exact mdc_fid _ | exact mdc_vd _ | exact mdc_up _ | exact mdc_q _ | exact mdc_rf _ | exact mdc_tk _ | exact mdc_au _ | exact mdc_fl _ | exact mdc_fu _ | exact mdc_kp _ | exact duc_ep _ | exact duc_a _ | exact duc_n _ | exact duc_i _ | exact duc_ph _ | exact duc_fid _ | exact duc_vd _ | exact hwc | rfl | exact vrc_id x | exact hyd | exact stc_ph' _ | exact stc_fid' _ | exact stc_vd' _ | exact stc_ep' _ | exact stc_vs' _ | exact stc_is' _ | rfl) ?_)
      clear hl a; intro a hl
      refine wl (wl_val hl rfl ⟨_, _, rfl, rfl, rfl⟩ (r_field hl rfl fld78_5) ?_)
      clear hl a; intro a hl
      refine wl (w_load hl hh rfl ⟨_, _, rfl, rfl, rfl⟩ one36 rfl (by repeat (first | exact find_head | apply find_tail | apply find_skip)) (by first | exact mdc_ep _ | exact mdc_a _ | exact mdc_n _ | exact mdc_i _ | exact mdc_ph _ | exact mdc_fid _ | exact mdc_vd _ | exact mdc_up _ | exact mdc_q _ | exact mdc_rf _ | exact mdc_tk _ | exact mdc_au _ | exact mdc_fl _ | exact mdc_fu _ | exact mdc_kp _ | exact duc_ep _ | exact duc_a _ | exact duc_n _ | exact duc_i _ | exact duc_ph _ | exact duc_fid _ | exact duc_vd _ | exact hwc | rfl | exact vrc_id x | exact hyd | exact stc_ph' _ | exact stc_fid' _ | exact stc_vd' _ | exact stc_ep' _ | exact stc_vs' _ | exact stc_is' _ | rfl) ?_)
      clear hl a; intro a hl
      refine wl (wl_val hl rfl ⟨_, _, rfl, rfl, rfl⟩ (r_neq hl rfl rfl) ?_)
      clear hl a; intro a hl
      refine wl (wl_val hl rfl trivial (r_pickF hl rfl rfl) ?_)
      clear hl a; intro a hl
      refine wl (wl_val hl rfl trivial (r_move hl rfl) ?_)
      clear hl a; intro a hl
      refine sl_split (t := 40) hl rfl ?_ ?_
      · intro hg2; clear hl; intro hl
        try simp only [decide_eq_true_eq, decide_eq_false_iff_not, Bool.not_eq_true', Bool.not_eq_false', Bool.not_eq_true, Bool.not_eq_false, Bool.and_eq_true, Bool.or_eq_true, Bool.and_eq_false_iff, Bool.or_eq_false_iff, Bool.not_not, ne_eq, Int.not_lt, Int.not_le, Decidable.not_not, beq_iff_eq, bne_iff_ne] at hg2
        exfalso; first | contradiction | omega | exact absurd rfl hc7 | (simp at hc3; done) | (rw [heq] at hc5; cases hc5)
      · intro hg2; clear hl; intro hl
        try simp only [decide_eq_true_eq, decide_eq_false_iff_not, Bool.not_eq_true', Bool.not_eq_false', Bool.not_eq_true, Bool.not_eq_false, Bool.and_eq_true, Bool.or_eq_true, Bool.and_eq_false_iff, Bool.or_eq_false_iff, Bool.not_not, ne_eq, Int.not_lt, Int.not_le, Decidable.not_not, beq_iff_eq, bne_iff_ne] at hg2
        refine wl (wl_val hl rfl ⟨_, _, rfl, rfl, rfl⟩ (r_field hl rfl fld89_3) ?_)
        clear hl a; intro a hl
        refine wl (wl_val hl rfl ⟨_, _, rfl, rfl, rfl⟩ (r_field hl rfl fld87_1) ?_)
        clear hl a; intro a hl
        refine wl (w_load hl hh rfl ⟨_, _, rfl, rfl, rfl⟩ one76 rfl (by repeat (first | exact find_head | apply find_tail | apply find_skip)) (by first | exact mdc_ep _ | exact mdc_a _ | exact mdc_n _ | exact mdc_i _ | exact mdc_ph _ | exact mdc_fid _ | exact mdc_vd _ | exact mdc_up _ | exact mdc_q _ | exact mdc_rf _ | exact mdc_tk _ | exact mdc_au _ | exact mdc_fl _ | exact mdc_fu _ | exact mdc_kp _ | exact duc_ep _ | exact duc_a _ | exact duc_n _ | exact duc_i _ | exact duc_ph _ | exact duc_fid _ | exact duc_vd _ | exact hwc | rfl | exact vrc_id x | exact hyd | exact stc_ph' _ | exact stc_fid' _ | exact stc_vd' _ | exact stc_ep' _ | exact stc_vs' _ | exact stc_is' _ | rfl) ?_)
        clear hl a; intro a hl
        refine wl (wl_val hl rfl ⟨_, _, rfl, rfl, rfl⟩ (r_field hl rfl fld78_4) ?_)
        clear hl a; intro a hl
        refine wl (w_load hl hh rfl ⟨_, _, rfl, rfl, rfl⟩ one76 rfl (by repeat (first | exact find_head | apply find_tail | apply find_skip)) (by first | exact mdc_ep _ | exact mdc_a _ | exact mdc_n _ | exact mdc_i _ | exact mdc_ph _ | exact mdc_fid _ | exact mdc_vd _ | exact mdc_up _ | exact mdc_q _ | exact mdc_rf _ | exact mdc_tk _ | exact mdc_au _ | exact mdc_fl _ | exact mdc_fu _ | exact mdc_kp _ | exact duc_ep _ | exact duc_a _ | exact duc_n _ | exact duc_i _ | exact duc_ph _ | exact duc_fid _ | exact duc_vd _ | exact hwc | rfl | exact vrc_id x | exact hyd | exact stc_ph' _ | exact stc_fid' _ | exact stc_vd' _ | exact stc_ep' _ | exact stc_vs' _ | exact stc_is' _ | rfl) ?_)
        clear hl a; intro a hl
        refine wl (wl_val hl rfl ⟨_, _, rfl, rfl, rfl⟩ (r_neq hl rfl rfl) ?_)
        clear hl a; intro a hl
        refine wl (wl_val hl rfl trivial (r_pickF hl rfl rfl) ?_)
        clear hl a; intro a hl
        refine wl (wl_val hl rfl trivial (r_move hl rfl) ?_)
        clear hl a; intro a hl
        refine sl_split (t := 48) hl rfl ?_ ?_
        · intro hg3; clear hl; intro hl
          try simp only [decide_eq_true_eq, decide_eq_false_iff_not, Bool.not_eq_true', Bool.not_eq_false', Bool.not_eq_true, Bool.not_eq_false, Bool.and_eq_true, Bool.or_eq_true, Bool.and_eq_false_iff, Bool.or_eq_false_iff, Bool.not_not, ne_eq, Int.not_lt, Int.not_le, Decidable.not_not, beq_iff_eq, bne_iff_ne] at hg3
          exfalso; first | contradiction | omega | exact absurd rfl hc7 | (simp at hc3; done) | (rw [heq] at hc5; cases hc5)
        · intro hg3; clear hl; intro hl
          try simp only [decide_eq_true_eq, decide_eq_false_iff_not, Bool.not_eq_true', Bool.not_eq_false', Bool.not_eq_true, Bool.not_eq_false, Bool.and_eq_true, Bool.or_eq_true, Bool.and_eq_false_iff, Bool.or_eq_false_iff, Bool.not_not, ne_eq, Int.not_lt, Int.not_le, Decidable.not_not, beq_iff_eq, bne_iff_ne] at hg3
          refine wl (wl_val hl rfl ⟨_, _, rfl, rfl, rfl⟩ (r_field hl rfl fld89_3) ?_)
          clear hl a; intro a hl
          refine wl (wl_val hl rfl ⟨_, _, rfl, rfl, rfl⟩ (r_field hl rfl fld87_2) ?_)
          clear hl a; intro a hl
          first | refine wl (w_loadA hl hh rfl ⟨_, _, rfl, rfl, rfl⟩ agg66 rfl (by repeat (first | exact find_head | apply find_tail | apply find_skip)) (by first | exact stc_nx' _ | exact duc_nx _ | exact vrc_nt x | exact hyn) (by exact ntk_len _) ?_) | refine wl (wl_val hl rfl ⟨_, _, rfl, rfl, rfl⟩ (r_loadA hl rfl agg66 (hh.mem _ _ (by repeat (first | exact hmem4 | exact List.mem_append_left _ hmem4 | apply List.mem_cons_of_mem | apply List.mem_append_right))) hd4 rfl) ?_) | refine wl (wl_val hl rfl ⟨_, _, rfl, rfl, rfl⟩ (r_loadA hl rfl agg66 (hh.mem _ _ (by repeat (first | exact hmem5 | exact List.mem_append_left _ hmem5 | apply List.mem_cons_of_mem | apply List.mem_append_right))) hd5 rfl) ?_)
          clear hl a; intro a hl
          rw [ntk_eq hs'.fn] at hl
          refine wl (wl_val hl rfl ⟨_, _, rfl, rfl, rfl⟩ (r_field hl rfl fld78_6) ?_)
          clear hl a; intro a hl
          first | refine wl (w_loadA hl hh rfl ⟨_, _, rfl, rfl, rfl⟩ agg66 rfl (by repeat (first | exact find_head | apply find_tail | apply find_skip)) (by first | exact stc_nx' _ | exact duc_nx _ | exact vrc_nt x | exact hyn) (by exact ntk_len _) ?_) | refine wl (wl_val hl rfl ⟨_, _, rfl, rfl, rfl⟩ (r_loadA hl rfl agg66 (hh.mem _ _ (by repeat (first | exact hmem4 | exact List.mem_append_left _ hmem4 | apply List.mem_cons_of_mem | apply List.mem_append_right))) hd4 rfl) ?_) | refine wl (wl_val hl rfl ⟨_, _, rfl, rfl, rfl⟩ (r_loadA hl rfl agg66 (hh.mem _ _ (by repeat (first | exact hmem5 | exact List.mem_append_left _ hmem5 | apply List.mem_cons_of_mem | apply List.mem_append_right))) hd5 rfl) ?_)
          clear hl a; intro a hl
          rw [ntk_eq hd.fn] at hl
          refine wl (w_call hl hh rfl ⟨_, _, rfl, rfl, rfl⟩ rfl cal118 rfl (snet_spec Z Y s'.fn m.d.fn hs'.fn hd.fn hfn) (by repeat (first | exact keeps_nil | apply keeps_cons (by repeat (first | exact find_head | apply find_tail | apply find_skip)) (by first  | rfl) | exact keeps_self | exact keeps_left | apply keeps_app | apply keeps_mv | apply keeps_skip)) ⟨memK hh (by repeat (first | exact keeps_nil | apply keeps_cons (by repeat (first | exact find_head | apply find_tail | apply find_skip)) (by first  | rfl) | exact keeps_self | exact keeps_left | apply keeps_app | apply keeps_mv | apply keeps_skip)), memK hh (by repeat (first | exact keeps_nil | apply keeps_cons (by repeat (first | exact find_head | apply find_tail | apply find_skip)) (by first  | rfl) | exact keeps_self | exact keeps_left | apply keeps_app | apply keeps_mv | apply keeps_skip))⟩ ?_)
          clear hl hh a w; intro vc Fc a w hR hl hh
          rcases hR with ⟨rfl, rfl⟩
          ·
            try simp only [List.cons_append, List.nil_append, List.append_nil] at hh
            try simp only [List.append_assoc, List.cons_append, List.nil_append] at hh
            refine wl (wl_val hl rfl ⟨_, _, rfl, rfl, rfl⟩ (r_not hl rfl) ?_)
            clear hl a; intro a hl
            refine wl (wl_val hl rfl trivial (r_pickF hl rfl rfl) ?_)
            clear hl a; intro a hl
            refine w_nil ?_
            have hl2 := hl.add (t := 3) (hl.add (t := 4) (hl.add (t := 56) (hl.nil) rfl) rfl) rfl; clear hl; have hl := hl2; clear hl2
            refine then_normal ?_
            refine c_cond hl rfl ?_ ?_
            · intro hc0
              try simp only [decide_eq_true_eq, decide_eq_false_iff_not, Bool.not_eq_true', Bool.not_eq_false', Bool.not_eq_true, Bool.not_eq_false, Bool.and_eq_true, Bool.or_eq_true, Bool.and_eq_false_iff, Bool.or_eq_false_iff, Bool.not_not, ne_eq, Int.not_lt, Int.not_le, Decidable.not_not, beq_iff_eq, bne_iff_ne] at hc0
              exfalso; first | contradiction | omega | exact absurd rfl hc7 | (simp at hc3; done) | (rw [heq] at hc5; cases hc5)
            · intro hc0
              try simp only [decide_eq_true_eq, decide_eq_false_iff_not, Bool.not_eq_true', Bool.not_eq_false', Bool.not_eq_true, Bool.not_eq_false, Bool.and_eq_true, Bool.or_eq_true, Bool.and_eq_false_iff, Bool.or_eq_false_iff, Bool.not_not, ne_eq, Int.not_lt, Int.not_le, Decidable.not_not, beq_iff_eq, bne_iff_ne] at hc0
              refine wp_skip ?_
              refine then_normal ?_
              refine c_seq ?_
              refine c_seq ?_
              refine c_region ?_
              refine wl (wl_val hl rfl trivial (r_field hl rfl fld89_1) ?_)
              clear hl a; intro a hl
              refine wl (w_load hl hh rfl trivial one85 rfl (by repeat (first | exact find_head | apply find_tail | apply find_skip)) (by first | exact mdc_ep _ | exact mdc_a _ | exact mdc_n _ | exact mdc_i _ | exact mdc_ph _ | exact mdc_fid _ | exact mdc_vd _ | exact mdc_up _ | exact mdc_q _ | exact mdc_rf _ | exact mdc_tk _ | exact mdc_au _ | exact mdc_fl _ | exact mdc_fu _ | exact mdc_kp _ | exact duc_ep _ | exact duc_a _ | exact duc_n _ | exact duc_i _ | exact duc_ph _ | exact duc_fid _ | exact duc_vd _ | exact hwc | rfl | exact vrc_id x | exact hyd | exact stc_ph' _ | exact stc_fid' _ | exact stc_vd' _ | exact stc_ep' _ | exact stc_vs' _ | exact stc_is' _ | rfl) ?_)
              clear hl a; intro a hl
              refine wl (wl_val hl rfl trivial (r_lenS hl rfl slc85) ?_)
              clear hl a; intro a hl
              refine wl (wl_val hl rfl trivial (r_field hl rfl fld78_1) ?_)
              clear hl a; intro a hl
              refine wl (w_load hl hh rfl trivial one72 rfl (by repeat (first | exact find_head | apply find_tail | apply find_skip)) (by first | exact mdc_ep _ | exact mdc_a _ | exact mdc_n _ | exact mdc_i _ | exact mdc_ph _ | exact mdc_fid _ | exact mdc_vd _ | exact mdc_up _ | exact mdc_q _ | exact mdc_rf _ | exact mdc_tk _ | exact mdc_au _ | exact mdc_fl _ | exact mdc_fu _ | exact mdc_kp _ | exact duc_ep _ | exact duc_a _ | exact duc_n _ | exact duc_i _ | exact duc_ph _ | exact duc_fid _ | exact duc_vd _ | exact hwc | rfl | exact vrc_id x | exact hyd | exact stc_ph' _ | exact stc_fid' _ | exact stc_vd' _ | exact stc_ep' _ | exact stc_vs' _ | exact stc_is' _ | rfl) ?_)
              clear hl a; intro a hl
              refine wl (wl_val hl rfl trivial (r_lenS hl rfl slc72) ?_)
              clear hl a; intro a hl
              refine wl (wl_val hl rfl trivial (r_neq hl rfl rfl) ?_)
              clear hl a; intro a hl
              refine wl (wl_val hl rfl trivial (r_move hl rfl) ?_)
              clear hl a; intro a hl
              refine sl_split (t := 64) hl rfl ?_ ?_
              · intro hg4; clear hl; intro hl
                try simp only [decide_eq_true_eq, decide_eq_false_iff_not, Bool.not_eq_true', Bool.not_eq_false', Bool.not_eq_true, Bool.not_eq_false, Bool.and_eq_true, Bool.or_eq_true, Bool.and_eq_false_iff, Bool.or_eq_false_iff, Bool.not_not, ne_eq, Int.not_lt, Int.not_le, Decidable.not_not, beq_iff_eq, bne_iff_ne] at hg4
                exfalso; first | contradiction | omega | exact absurd rfl hc7 | (simp at hc3; done) | (rw [heq] at hc5; cases hc5)
              · intro hg4; clear hl; intro hl
                try simp only [decide_eq_true_eq, decide_eq_false_iff_not, Bool.not_eq_true', Bool.not_eq_false', Bool.not_eq_true, Bool.not_eq_false, Bool.and_eq_true, Bool.or_eq_true, Bool.and_eq_false_iff, Bool.or_eq_false_iff, Bool.not_not, ne_eq, Int.not_lt, Int.not_le, Decidable.not_not, beq_iff_eq, bne_iff_ne] at hg4
                refine wl (wl_val hl rfl ⟨_, _, rfl, rfl, rfl⟩ (r_field hl rfl fld89_2) ?_)
                clear hl a; intro a hl
                refine wl (w_load hl hh rfl ⟨_, _, rfl, rfl, rfl⟩ one75 rfl (by repeat (first | exact find_head | apply find_tail | apply find_skip)) (by first | exact mdc_ep _ | exact mdc_a _ | exact mdc_n _ | exact mdc_i _ | exact mdc_ph _ | exact mdc_fid _ | exact mdc_vd _ | exact mdc_up _ | exact mdc_q _ | exact mdc_rf _ | exact mdc_tk _ | exact mdc_au _ | exact mdc_fl _ | exact mdc_fu _ | exact mdc_kp _ | exact duc_ep _ | exact duc_a _ | exact duc_n _ | exact duc_i _ | exact duc_ph _ | exact duc_fid _ | exact duc_vd _ | exact hwc | rfl | exact vrc_id x | exact hyd | exact stc_ph' _ | exact stc_fid' _ | exact stc_vd' _ | exact stc_ep' _ | exact stc_vs' _ | exact stc_is' _ | rfl) ?_)
                clear hl a; intro a hl
                refine wl (wl_val hl rfl ⟨_, _, rfl, rfl, rfl⟩ (r_lenS hl rfl slc75) ?_)
                clear hl a; intro a hl
                refine wl (wl_val hl rfl ⟨_, _, rfl, rfl, rfl⟩ (r_field hl rfl fld78_3) ?_)
                clear hl a; intro a hl
                refine wl (w_load hl hh rfl ⟨_, _, rfl, rfl, rfl⟩ one75 rfl (by repeat (first | exact find_head | apply find_tail | apply find_skip)) (by first | exact mdc_ep _ | exact mdc_a _ | exact mdc_n _ | exact mdc_i _ | exact mdc_ph _ | exact mdc_fid _ | exact mdc_vd _ | exact mdc_up _ | exact mdc_q _ | exact mdc_rf _ | exact mdc_tk _ | exact mdc_au _ | exact mdc_fl _ | exact mdc_fu _ | exact mdc_kp _ | exact duc_ep _ | exact duc_a _ | exact duc_n _ | exact duc_i _ | exact duc_ph _ | exact duc_fid _ | exact duc_vd _ | exact hwc | rfl | exact vrc_id x | exact hyd | exact stc_ph' _ | exact stc_fid' _ | exact stc_vd' _ | exact stc_ep' _ | exact stc_vs' _ | exact stc_is' _ | rfl) ?_)
                clear hl a; intro a hl
                refine wl (wl_val hl rfl ⟨_, _, rfl, rfl, rfl⟩ (r_lenS hl rfl slc75) ?_)
                clear hl a; intro a hl
                refine wl (wl_val hl rfl ⟨_, _, rfl, rfl, rfl⟩ (r_neq hl rfl rfl) ?_)
                clear hl a; intro a hl
                refine wl (wl_val hl rfl trivial (r_pickF hl rfl rfl) ?_)
                clear hl a; intro a hl
                refine wl (wl_val hl rfl trivial (r_move hl rfl) ?_)
                clear hl a; intro a hl
                refine sl_split (t := 73) hl rfl ?_ ?_
                · intro hg5; clear hl; intro hl
                  try simp only [decide_eq_true_eq, decide_eq_false_iff_not, Bool.not_eq_true', Bool.not_eq_false', Bool.not_eq_true, Bool.not_eq_false, Bool.and_eq_true, Bool.or_eq_true, Bool.and_eq_false_iff, Bool.or_eq_false_iff, Bool.not_not, ne_eq, Int.not_lt, Int.not_le, Decidable.not_not, beq_iff_eq, bne_iff_ne] at hg5
                  exfalso; first | contradiction | omega | exact absurd rfl hc7 | (simp at hc3; done) | (rw [heq] at hc5; cases hc5)
                · intro hg5; clear hl; intro hl
                  try simp only [decide_eq_true_eq, decide_eq_false_iff_not, Bool.not_eq_true', Bool.not_eq_false', Bool.not_eq_true, Bool.not_eq_false, Bool.and_eq_true, Bool.or_eq_true, Bool.and_eq_false_iff, Bool.or_eq_false_iff, Bool.not_not, ne_eq, Int.not_lt, Int.not_le, Decidable.not_not, beq_iff_eq, bne_iff_ne] at hg5
                  refine wl (wl_val hl rfl ⟨_, _, rfl, rfl, rfl⟩ (r_field hl rfl fld89_4) ?_)
                  clear hl a; intro a hl
                  refine wl (w_load hl hh rfl ⟨_, _, rfl, rfl, rfl⟩ one74 rfl (by repeat (first | exact find_head | apply find_tail | apply find_skip)) (by first | exact mdc_ep _ | exact mdc_a _ | exact mdc_n _ | exact mdc_i _ | exact mdc_ph _ | exact mdc_fid _ | exact mdc_vd _ | exact mdc_up _ | exact mdc_q _ | exact mdc_rf _ | exact mdc_tk _ | exact mdc_au _ | exact mdc_fl _ | exact mdc_fu _ | exact mdc_kp _ | exact duc_ep _ | exact duc_a _ | exact duc_n _ | exact duc_i _ | exact duc_ph _ | exact duc_fid _ | exact duc_vd _ | exact hwc | rfl | exact vrc_id x | exact hyd | exact stc_ph' _ | exact stc_fid' _ | exact stc_vd' _ | exact stc_ep' _ | exact stc_vs' _ | exact stc_is' _ | rfl) ?_)
                  clear hl a; intro a hl
                  refine wl (w_lenM Tryz.underlying74 hl hh rfl ⟨_, _, rfl, rfl, rfl⟩ rfl (by repeat (first | exact find_head | apply find_tail | apply find_skip)) ?_)
                  clear hl a; intro a hl
                  refine wl (wl_val hl rfl ⟨_, _, rfl, rfl, rfl⟩ (r_field hl rfl fld78_7) ?_)
                  clear hl a; intro a hl
                  refine wl (w_load hl hh rfl ⟨_, _, rfl, rfl, rfl⟩ one74 rfl (by repeat (first | exact find_head | apply find_tail | apply find_skip)) (by first | exact mdc_ep _ | exact mdc_a _ | exact mdc_n _ | exact mdc_i _ | exact mdc_ph _ | exact mdc_fid _ | exact mdc_vd _ | exact mdc_up _ | exact mdc_q _ | exact mdc_rf _ | exact mdc_tk _ | exact mdc_au _ | exact mdc_fl _ | exact mdc_fu _ | exact mdc_kp _ | exact duc_ep _ | exact duc_a _ | exact duc_n _ | exact duc_i _ | exact duc_ph _ | exact duc_fid _ | exact duc_vd _ | exact hwc | rfl | exact vrc_id x | exact hyd | exact stc_ph' _ | exact stc_fid' _ | exact stc_vd' _ | exact stc_ep' _ | exact stc_vs' _ | exact stc_is' _ | rfl) ?_)
                  clear hl a; intro a hl
                  refine wl (w_lenM Tryz.underlying74 hl hh rfl ⟨_, _, rfl, rfl, rfl⟩ rfl (by repeat (first | exact find_head | apply find_tail | apply find_skip)) ?_)
                  clear hl a; intro a hl
                  refine wl (wl_val hl rfl ⟨_, _, rfl, rfl, rfl⟩ (r_neq hl rfl rfl) ?_)
                  clear hl a; intro a hl
                  refine wl (wl_val hl rfl trivial (r_pickF hl rfl rfl) ?_)
                  clear hl a; intro a hl
                  refine w_nil ?_
                  have hl2 := hl.add (t := 3) (hl.add (t := 4) (hl.add (t := 81) (hl.nil) rfl) rfl) rfl; clear hl; have hl := hl2; clear hl2
                  refine then_normal ?_
                  refine c_cond hl rfl ?_ ?_
                  · intro hc1
                    try simp only [decide_eq_true_eq, decide_eq_false_iff_not, Bool.not_eq_true', Bool.not_eq_false', Bool.not_eq_true, Bool.not_eq_false, Bool.and_eq_true, Bool.or_eq_true, Bool.and_eq_false_iff, Bool.or_eq_false_iff, Bool.not_not, ne_eq, Int.not_lt, Int.not_le, Decidable.not_not, beq_iff_eq, bne_iff_ne] at hc1
                    exfalso; first | contradiction | omega | exact absurd rfl hc7 | (simp at hc3; done) | (rw [heq] at hc5; cases hc5)
                  · intro hc1
                    try simp only [decide_eq_true_eq, decide_eq_false_iff_not, Bool.not_eq_true', Bool.not_eq_false', Bool.not_eq_true, Bool.not_eq_false, Bool.and_eq_true, Bool.or_eq_true, Bool.and_eq_false_iff, Bool.or_eq_false_iff, Bool.not_not, ne_eq, Int.not_lt, Int.not_le, Decidable.not_not, beq_iff_eq, bne_iff_ne] at hc1
                    refine wp_skip ?_
                    refine then_normal ?_
                    refine c_seq ?_
                    refine c_seq ?_
                    refine c_region ?_
                    refine wl (wl_val hl rfl trivial (r_field hl rfl fld89_1) ?_)
                    clear hl a; intro a hl
                    refine wl (w_load hl hh rfl trivial one85 rfl (by repeat (first | exact find_head | apply find_tail | apply find_skip)) (by first | exact mdc_ep _ | exact mdc_a _ | exact mdc_n _ | exact mdc_i _ | exact mdc_ph _ | exact mdc_fid _ | exact mdc_vd _ | exact mdc_up _ | exact mdc_q _ | exact mdc_rf _ | exact mdc_tk _ | exact mdc_au _ | exact mdc_fl _ | exact mdc_fu _ | exact mdc_kp _ | exact duc_ep _ | exact duc_a _ | exact duc_n _ | exact duc_i _ | exact duc_ph _ | exact duc_fid _ | exact duc_vd _ | exact hwc | rfl | exact vrc_id x | exact hyd | exact stc_ph' _ | exact stc_fid' _ | exact stc_vd' _ | exact stc_ep' _ | exact stc_vs' _ | exact stc_is' _ | rfl) ?_)
                    clear hl a; intro a hl
                    rw [hq3] at hl
                    refine wl (wl_val hl rfl trivial (r_lenS hl rfl slc85) ?_)
                    clear hl a; intro a hl
                    refine wl (wl_val hl rfl trivial (r_move hl rfl) ?_)
                    clear hl a; intro a hl
                    refine w_nil ?_
                    have hl2 := hl.add (t := 3) (hl.add (t := 4) (hl.add (t := 83) (hl.add (t := 84) (hl.add (t := 85) (hl.nil) rfl) rfl) rfl) rfl) rfl; clear hl; have hl := hl2; clear hl2
                    refine then_normal ?_
                    refine wp_block ?_
                    obtain ⟨KS0, hKS0, hk⟩ := (hl.add (t := 3) (hl.add (t := 4) (hl.add (t := 83) (hl.add (t := 84) (hl.nil) rfl) rfl) rfl) rfl).name
                    obtain ⟨HS0, hHS0, hh2⟩ := hh.name (keeps_nil)
                    refine c_loop (α := Nat) (fun i => s'.vs.length - i) (fun i a w => (i ≤ s'.vs.length) ∧ Sl 140 ([(85, .int .i64 (i : Int))] ++ KS0) a ∧ Has _ w0 ([] ++ HS0) w) 0 ⟨Nat.zero_le _, hl.addE (t := 85) (hk) rfl (by first | rfl), hh2⟩ ?_
                    clear hk hh2 hl hh a w
                    intro i a w hI
                    obtain ⟨hi, hl, hh⟩ := hI
                    subst hKS0; subst hHS0
                    simp only [List.cons_append, List.nil_append, List.append_nil, List.append_assoc] at hl hh
                    refine c_seq ?_
                    refine c_region ?_
                    refine wl (wl_val hl rfl trivial (r_lss hl rfl rfl) ?_)
                    clear hl a; intro a hl
                    refine w_nil ?_
                    have hl2 := hl.add (t := 3) (hl.add (t := 4) (hl.add (t := 83) (hl.add (t := 84) (hl.add (t := 85) (hl.add (t := 86) (hl.nil) rfl) rfl) rfl) rfl) rfl) rfl; clear hl; have hl := hl2; clear hl2
                    refine then_normal ?_
                    refine c_seq ?_
                    refine c_cond hl rfl ?_ ?_
                    · intro hc2
                      try simp only [decide_eq_true_eq, decide_eq_false_iff_not, Bool.not_eq_true', Bool.not_eq_false', Bool.not_eq_true, Bool.not_eq_false, Bool.and_eq_true, Bool.or_eq_true, Bool.and_eq_false_iff, Bool.or_eq_false_iff, Bool.not_not, ne_eq, Int.not_lt, Int.not_le, Decidable.not_not, beq_iff_eq, bne_iff_ne] at hc2
                      obtain ⟨x, hx⟩ : ∃ x, s'.vs[i]? = some x := ⟨_, List.getElem?_eq_getElem (by omega)⟩
                      obtain ⟨y, hy⟩ : ∃ y, m.d.vs[i]? = some y := ⟨_, List.getElem?_eq_getElem (by omega)⟩
                      have hxo := hs'.vo x (List.mem_of_getElem? hx)
                      have hyo := hd.vo y (List.mem_of_getElem? hy)
                      have hxy := vs_at hpm hx hy
                      have hxd := fl_at vrc_len hx j3
                      have hyd := id_at9 hy j1
                      have hyw : m.d.ws[i]? = some y := by rw [hd.e]; exact hy
                      have hyn := fl_at ntc_len hyw j2
                      refine wp_skip ?_
                      refine then_normal ?_
                      refine c_seq ?_
                      refine wp_block ?_
                      refine c_seq ?_
                      refine c_region ?_
                      refine wl (wl_val hl rfl trivial (r_move hl rfl) ?_)
                      clear hl a; intro a hl
                      refine wl (wl_val hl rfl trivial (r_indexS hl rfl rfl slc85 (by omega) (by omega) (by first | (simp only [Int.reduceToNat]; rfl) | exact toNat_add1 _ | exact toNat_add2 _ _ | exact toNat_emod _ _ | exact Int.toNat_natCast _ | rfl)) ?_)
                      clear hl a; intro a hl
                      first | refine wl (w_loadA hl hh rfl trivial agg84 rfl (by repeat (first | exact find_head | apply find_tail | apply find_skip)) (by exact hxd) (by exact vrc_len _) ?_) | refine wl (wl_val hl rfl trivial (r_loadA hl rfl agg84 (hh.mem _ _ (by repeat (first | exact hmem4 | exact List.mem_append_left _ hmem4 | apply List.mem_cons_of_mem | apply List.mem_append_right))) hd4 rfl) ?_) | refine wl (wl_val hl rfl trivial (r_loadA hl rfl agg84 (hh.mem _ _ (by repeat (first | exact hmem5 | exact List.mem_append_left _ hmem5 | apply List.mem_cons_of_mem | apply List.mem_append_right))) hd5 rfl) ?_)
                      clear hl a; intro a hl
                      refine wl (w_alloc hl hh rfl trivial zero84 rfl ?_)
                      clear hl hh a w; intro k6 a w hl hh
                      refine wl (wl_val hl rfl trivial (r_assign hl rfl) ?_)
                      clear hl a; intro a hl
                      refine wl (w_storeA hl hh trivial agg84 rfl rfl (by repeat (first | exact find_head | apply find_tail | apply find_skip)) (by exact vrc_len _) (by exact Nat.le_refl 65) (by exact vrc_one _) (by exact setL_all (show 65 = _ from (vrc_len _).symm)) ?_)
                      clear hh w; intro w hh
                      refine w_nil ?_
                      have hl2 := hl.add (t := 3) (hl.add (t := 4) (hl.add (t := 5) (hl.add (t := 6) (hl.add (t := 83) (hl.add (t := 84) (hl.add (t := 85) (hl.nil) rfl) rfl) rfl) rfl) rfl) rfl) rfl; clear hl; have hl := hl2; clear hl2
                      refine then_normal ?_
                      refine c_seq ?_
                      refine c_draw [(k6, C (vrc x) 84), (k4, C m.d.c 78), (b1, C (fl idc m.d.vs ++ j1) 36), (b2, C (fl ntc m.d.ws ++ j2) 66)] [16, 17, 18] mixed hh ?_
                      clear hh w; intro w hh
                      have hM : Mem [(k6, C (vrc x) 84), (k4, C m.d.c 78), (b1, C (fl idc m.d.vs ++ j1) 36), (b2, C (fl ntc m.d.ws ++ j2) 66)] w := (memK hh (by repeat (first | exact keeps_nil | apply keeps_cons (by repeat (first | exact find_head | apply find_tail | apply find_skip)) (by first  | rfl) | exact keeps_self | exact keeps_left | apply keeps_app | apply keeps_mv | apply keeps_skip)))
                      refine d_take (i := 0) hl rfl (by kernel_rfl) (by kernel_rfl) (by kernel_rfl) (by kernel_rfl) (by kernel_rfl) rfl trivial (fun _ _ _ h => h) hM (fun w hC => r_field hl rfl fld84_0) rfl ?_
                      clear hl a; intro a hl
                      refine d_take (i := 1) hl rfl (by kernel_rfl) (by kernel_rfl) (by kernel_rfl) (by kernel_rfl) (by kernel_rfl) rfl trivial (fun _ _ _ h => h) hM (fun w hC => r_loadC hl rfl one36 hC (by repeat (first | exact find_head | apply find_tail | apply find_skip)) (by first | exact mdc_ep _ | exact mdc_a _ | exact mdc_n _ | exact mdc_i _ | exact mdc_ph _ | exact mdc_fid _ | exact mdc_vd _ | exact mdc_up _ | exact mdc_q _ | exact mdc_rf _ | exact mdc_tk _ | exact mdc_au _ | exact mdc_fl _ | exact mdc_fu _ | exact mdc_kp _ | exact duc_ep _ | exact duc_a _ | exact duc_n _ | exact duc_i _ | exact duc_ph _ | exact duc_fid _ | exact duc_vd _ | exact hwc | rfl | exact vrc_id x | exact hyd | exact stc_ph' _ | exact stc_fid' _ | exact stc_vd' _ | exact stc_ep' _ | exact stc_vs' _ | exact stc_is' _ | rfl)) rfl ?_
                      clear hl a; intro a hl
                      refine d_take (i := 2) hl rfl (by kernel_rfl) (by kernel_rfl) (by kernel_rfl) (by kernel_rfl) (by kernel_rfl) rfl trivial (fun _ _ _ h => h) hM (fun w hC => r_field hl rfl fld78_1) rfl ?_
                      clear hl a; intro a hl
                      refine d_take (i := 3) hl rfl (by kernel_rfl) (by kernel_rfl) (by kernel_rfl) (by kernel_rfl) (by kernel_rfl) rfl trivial (fun _ _ _ h => h) hM (fun w hC => r_loadC hl rfl one72 hC (by repeat (first | exact find_head | apply find_tail | apply find_skip)) (by first | exact mdc_ep _ | exact mdc_a _ | exact mdc_n _ | exact mdc_i _ | exact mdc_ph _ | exact mdc_fid _ | exact mdc_vd _ | exact mdc_up _ | exact mdc_q _ | exact mdc_rf _ | exact mdc_tk _ | exact mdc_au _ | exact mdc_fl _ | exact mdc_fu _ | exact mdc_kp _ | exact duc_ep _ | exact duc_a _ | exact duc_n _ | exact duc_i _ | exact duc_ph _ | exact duc_fid _ | exact duc_vd _ | exact hwc | rfl | exact vrc_id x | exact hyd | exact stc_ph' _ | exact stc_fid' _ | exact stc_vd' _ | exact stc_ep' _ | exact stc_vs' _ | exact stc_is' _ | rfl)) rfl ?_
                      clear hl a; intro a hl
                      rw [hq1] at hl
                      refine d_take (i := 4) hl rfl (by kernel_rfl) (by kernel_rfl) (by kernel_rfl) (by kernel_rfl) (by kernel_rfl) rfl trivial (fun _ _ _ h => h) hM (fun w hC => r_move hl rfl) rfl ?_
                      clear hl a; intro a hl
                      refine d_take (i := 5) hl rfl (by kernel_rfl) (by kernel_rfl) (by kernel_rfl) (by kernel_rfl) (by kernel_rfl) rfl trivial (fun _ _ _ h => h) hM (fun w hC => r_indexS hl rfl rfl slc72 (by omega) (by omega) (by first | (simp only [Int.reduceToNat]; rfl) | exact toNat_add1 _ | exact toNat_add2 _ _ | exact toNat_emod _ _ | exact Int.toNat_natCast _ | rfl)) rfl ?_
                      clear hl a; intro a hl
                      refine d_take (i := 6) hl rfl (by kernel_rfl) (by kernel_rfl) (by kernel_rfl) (by kernel_rfl) (by kernel_rfl) rfl trivial (fun _ _ _ h => h) hM (fun w hC => r_loadC hl rfl one36 hC (by repeat (first | exact find_head | apply find_tail | apply find_skip)) (by first | exact mdc_ep _ | exact mdc_a _ | exact mdc_n _ | exact mdc_i _ | exact mdc_ph _ | exact mdc_fid _ | exact mdc_vd _ | exact mdc_up _ | exact mdc_q _ | exact mdc_rf _ | exact mdc_tk _ | exact mdc_au _ | exact mdc_fl _ | exact mdc_fu _ | exact mdc_kp _ | exact duc_ep _ | exact duc_a _ | exact duc_n _ | exact duc_i _ | exact duc_ph _ | exact duc_fid _ | exact duc_vd _ | exact hwc | rfl | exact vrc_id x | exact hyd | exact stc_ph' _ | exact stc_fid' _ | exact stc_vd' _ | exact stc_ep' _ | exact stc_vs' _ | exact stc_is' _ | rfl)) rfl ?_
                      clear hl a; intro a hl
                      refine d_take (i := 7) hl rfl (by kernel_rfl) (by kernel_rfl) (by kernel_rfl) (by kernel_rfl) (by kernel_rfl) rfl trivial (fun _ _ _ h => h) hM (fun w hC => r_neq hl rfl rfl) rfl ?_
                      clear hl a; intro a hl
                      refine d_take (i := 8) hl rfl (by kernel_rfl) (by kernel_rfl) (by kernel_rfl) (by kernel_rfl) (by kernel_rfl) rfl trivial (fun _ _ _ h => h) hM (fun w hC => r_move hl rfl) rfl ?_
                      clear hl a; intro a hl
                      refine sl_split (t := 98) hl rfl ?_ ?_
                      · intro hg6; clear hl; intro hl
                        try simp only [decide_eq_true_eq, decide_eq_false_iff_not, Bool.not_eq_true', Bool.not_eq_false', Bool.not_eq_true, Bool.not_eq_false, Bool.and_eq_true, Bool.or_eq_true, Bool.and_eq_false_iff, Bool.or_eq_false_iff, Bool.not_not, ne_eq, Int.not_lt, Int.not_le, Decidable.not_not, beq_iff_eq, bne_iff_ne] at hg6
                        exfalso; first | contradiction | omega | exact absurd rfl hc7 | (simp at hc3; done) | (rw [heq] at hc5; cases hc5)
                      · intro hg6; clear hl; intro hl
                        try simp only [decide_eq_true_eq, decide_eq_false_iff_not, Bool.not_eq_true', Bool.not_eq_false', Bool.not_eq_true, Bool.not_eq_false, Bool.and_eq_true, Bool.or_eq_true, Bool.and_eq_false_iff, Bool.or_eq_false_iff, Bool.not_not, ne_eq, Int.not_lt, Int.not_le, Decidable.not_not, beq_iff_eq, bne_iff_ne] at hg6
                        refine d_take (i := 9) hl rfl (by kernel_rfl) (by kernel_rfl) (by kernel_rfl) (by kernel_rfl) (by kernel_rfl) rfl ⟨_, _, rfl, rfl, rfl⟩ (fun _ _ _ h => h) hM (fun w hC => r_field hl rfl fld84_1) rfl ?_
                        clear hl a; intro a hl
                        refine d_take (i := 10) hl rfl (by kernel_rfl) (by kernel_rfl) (by kernel_rfl) (by kernel_rfl) (by kernel_rfl) rfl ⟨_, _, rfl, rfl, rfl⟩ (fun _ _ _ h => h) hM (fun w hC => r_loadCA hl rfl agg66 hC (by repeat (first | exact find_head | apply find_tail | apply find_skip)) (by first | exact stc_nx' _ | exact duc_nx _ | exact vrc_nt x | exact hyn) (by exact ntk_len _)) rfl ?_
                        clear hl a; intro a hl
                        rw [ntk_eq hxo.1] at hl
                        refine d_take (i := 11) hl rfl (by kernel_rfl) (by kernel_rfl) (by kernel_rfl) (by kernel_rfl) (by kernel_rfl) rfl ⟨_, _, rfl, rfl, rfl⟩ (fun _ _ _ h => h) hM (fun w hC => r_field hl rfl fld78_2) rfl ?_
                        clear hl a; intro a hl
                        refine d_take (i := 12) hl rfl (by kernel_rfl) (by kernel_rfl) (by kernel_rfl) (by kernel_rfl) (by kernel_rfl) rfl ⟨_, _, rfl, rfl, rfl⟩ (fun _ _ _ h => h) hM (fun w hC => r_loadC hl rfl one73 hC (by repeat (first | exact find_head | apply find_tail | apply find_skip)) (by first | exact mdc_ep _ | exact mdc_a _ | exact mdc_n _ | exact mdc_i _ | exact mdc_ph _ | exact mdc_fid _ | exact mdc_vd _ | exact mdc_up _ | exact mdc_q _ | exact mdc_rf _ | exact mdc_tk _ | exact mdc_au _ | exact mdc_fl _ | exact mdc_fu _ | exact mdc_kp _ | exact duc_ep _ | exact duc_a _ | exact duc_n _ | exact duc_i _ | exact duc_ph _ | exact duc_fid _ | exact duc_vd _ | exact hwc | rfl | exact vrc_id x | exact hyd | exact stc_ph' _ | exact stc_fid' _ | exact stc_vd' _ | exact stc_ep' _ | exact stc_vs' _ | exact stc_is' _ | rfl)) rfl ?_
                        clear hl a; intro a hl
                        rw [hq2] at hl
                        refine d_take (i := 13) hl rfl (by kernel_rfl) (by kernel_rfl) (by kernel_rfl) (by kernel_rfl) (by kernel_rfl) rfl ⟨_, _, rfl, rfl, rfl⟩ (fun _ _ _ h => h) hM (fun w hC => r_move hl rfl) rfl ?_
                        clear hl a; intro a hl
                        refine d_take (i := 14) hl rfl (by kernel_rfl) (by kernel_rfl) (by kernel_rfl) (by kernel_rfl) (by kernel_rfl) rfl ⟨_, _, rfl, rfl, rfl⟩ (fun _ _ _ h => h) hM (fun w hC => r_indexS hl rfl rfl slc73 (by omega) (by omega) (by first | (simp only [Int.reduceToNat]; rfl) | exact toNat_add1 _ | exact toNat_add2 _ _ | exact toNat_emod _ _ | exact Int.toNat_natCast _ | rfl)) rfl ?_
                        clear hl a; intro a hl
                        refine d_take (i := 15) hl rfl (by kernel_rfl) (by kernel_rfl) (by kernel_rfl) (by kernel_rfl) (by kernel_rfl) rfl ⟨_, _, rfl, rfl, rfl⟩ (fun _ _ _ h => h) hM (fun w hC => r_loadCA hl rfl agg66 hC (by repeat (first | exact find_head | apply find_tail | apply find_skip)) (by first | exact stc_nx' _ | exact duc_nx _ | exact vrc_nt x | exact hyn) (by exact ntk_len _)) rfl ?_
                        clear hl a; intro a hl
                        rw [show ntc y = _ from ntk_eq hyo.1] at hl
                        refine d_one (i := 16) (by kernel_rfl) rfl ?_
                        try clear hM
                        refine id (w_call hl hh rfl ⟨_, _, rfl, rfl, rfl⟩ rfl cal118 rfl (snet_spec Z Y x.n y.n hxo.1 hyo.1 hxy.2) (by repeat (first | exact keeps_nil | apply keeps_cons (by repeat (first | exact find_head | apply find_tail | apply find_skip)) (by first  | rfl) | exact keeps_self | exact keeps_left | apply keeps_app | apply keeps_mv | apply keeps_skip)) ⟨memK hh (by repeat (first | exact keeps_nil | apply keeps_cons (by repeat (first | exact find_head | apply find_tail | apply find_skip)) (by first  | rfl) | exact keeps_self | exact keeps_left | apply keeps_app | apply keeps_mv | apply keeps_skip)), memK hh (by repeat (first | exact keeps_nil | apply keeps_cons (by repeat (first | exact find_head | apply find_tail | apply find_skip)) (by first  | rfl) | exact keeps_self | exact keeps_left | apply keeps_app | apply keeps_mv | apply keeps_skip))⟩ ?_)
                        clear hl hh a w; intro vc Fc a w hR hl hh
                        obtain ⟨rfl, rfl⟩ := hR
                        try simp only [List.cons_append, List.nil_append, List.append_assoc, List.append_nil] at hh
                        refine d_step (fun h => absurd h (by decide)) ?_
                        refine d_takeL (i := 17) hl rfl (by kernel_rfl) (by kernel_rfl) (by kernel_rfl) (by kernel_rfl) (by kernel_rfl) rfl ⟨_, _, rfl, rfl, rfl⟩ (fun _ _ _ h => h) (fun w => r_not hl rfl) rfl ?_
                        clear hl a; intro a hl
                        refine d_takeL (i := 18) hl rfl (by kernel_rfl) (by kernel_rfl) (by kernel_rfl) (by kernel_rfl) (by kernel_rfl) rfl trivial (fun _ _ _ h => h) (fun w => r_pickF hl rfl rfl) rfl ?_
                        clear hl a; intro a hl
                        refine d_done (by kernel_rfl) ?_
                        try clear hM
                        have hl2 := hl.add (t := 3) (hl.add (t := 4) (hl.add (t := 83) (hl.add (t := 84) (hl.add (t := 85) (hl.add (t := 108) (hl.nil) rfl) rfl) rfl) rfl) rfl) rfl; clear hl; have hl := hl2; clear hl2
                        refine then_normal ?_
                        refine c_cond hl rfl ?_ ?_
                        · intro hc3
                          try simp only [decide_eq_true_eq, decide_eq_false_iff_not, Bool.not_eq_true', Bool.not_eq_false', Bool.not_eq_true, Bool.not_eq_false, Bool.and_eq_true, Bool.or_eq_true, Bool.and_eq_false_iff, Bool.or_eq_false_iff, Bool.not_not, ne_eq, Int.not_lt, Int.not_le, Decidable.not_not, beq_iff_eq, bne_iff_ne] at hc3
                          exfalso; first | contradiction | omega | exact absurd rfl hc7 | (simp at hc3; done) | (rw [heq] at hc5; cases hc5)
                        · intro hc3
                          try simp only [decide_eq_true_eq, decide_eq_false_iff_not, Bool.not_eq_true', Bool.not_eq_false', Bool.not_eq_true, Bool.not_eq_false, Bool.and_eq_true, Bool.or_eq_true, Bool.and_eq_false_iff, Bool.or_eq_false_iff, Bool.not_not, ne_eq, Int.not_lt, Int.not_le, Decidable.not_not, beq_iff_eq, bne_iff_ne] at hc3
                          refine wp_skip ?_
                          refine blk_normal ?_
                          refine then_normal ?_
                          refine c_region ?_
                          first | refine wl (wl_val hl rfl trivial (r_add hl rfl rfl (by simp only [Fits]; omega)) ?_) | refine wl (wl_val hl rfl trivial (r_addW hl rfl rfl) ?_)
                          clear hl a; intro a hl
                          refine wl (wl_val hl rfl trivial (r_move hl rfl) ?_)
                          clear hl a; intro a hl
                          refine w_nil ?_
                          have hl2 := hl.add (t := 3) (hl.add (t := 4) (hl.add (t := 83) (hl.add (t := 84) (hl.add (t := 85) (hl.nil) rfl) rfl) rfl) rfl) rfl; clear hl; have hl := hl2; clear hl2
                          refine then_normal ?_
                          refine ⟨i + 1, (by omega), (by omega), hl.addE (t := 85) (hl.addE (t := 3) (hl.addE (t := 4) (hl.addE (t := 83) (hl.addE (t := 84) (hl.nil) rfl (by first | rfl | exact congrArg (Value.int .i64) (show (i : Int) + 1 = ((i + 1 : Nat) : Int) by omega))) rfl (by first | rfl | exact congrArg (Value.int .i64) (show (i : Int) + 1 = ((i + 1 : Nat) : Int) by omega))) rfl (by first | rfl | exact congrArg (Value.int .i64) (show (i : Int) + 1 = ((i + 1 : Nat) : Int) by omega))) rfl (by first | rfl | exact congrArg (Value.int .i64) (show (i : Int) + 1 = ((i + 1 : Nat) : Int) by omega))) rfl (by first | rfl | exact congrArg (Value.int .i64) (show (i : Int) + 1 = ((i + 1 : Nat) : Int) by omega)), hh.keep (by repeat (first | exact keeps_nil | apply keeps_cons (by repeat (first | exact find_head | apply find_tail | apply find_skip)) (by first  | rfl) | exact keeps_self | exact keeps_left | apply keeps_app | apply keeps_mv | apply keeps_skip))⟩
                    · intro hc2
                      try simp only [decide_eq_true_eq, decide_eq_false_iff_not, Bool.not_eq_true', Bool.not_eq_false', Bool.not_eq_true, Bool.not_eq_false, Bool.and_eq_true, Bool.or_eq_true, Bool.and_eq_false_iff, Bool.or_eq_false_iff, Bool.not_not, ne_eq, Int.not_lt, Int.not_le, Decidable.not_not, beq_iff_eq, bne_iff_ne] at hc2
                      refine wp_exit ?_
                      refine then_exit ?_
                      refine then_exit ?_
                      refine blk_exit ?_
                      refine then_normal ?_
                      refine c_seq ?_
                      refine c_seq ?_
                      refine c_region ?_
                      refine wl (wl_val hl rfl trivial (r_field hl rfl fld89_2) ?_)
                      clear hl a; intro a hl
                      refine wl (w_load hl hh rfl trivial one75 rfl (by repeat (first | exact find_head | apply find_tail | apply find_skip)) (by first | exact mdc_ep _ | exact mdc_a _ | exact mdc_n _ | exact mdc_i _ | exact mdc_ph _ | exact mdc_fid _ | exact mdc_vd _ | exact mdc_up _ | exact mdc_q _ | exact mdc_rf _ | exact mdc_tk _ | exact mdc_au _ | exact mdc_fl _ | exact mdc_fu _ | exact mdc_kp _ | exact duc_ep _ | exact duc_a _ | exact duc_n _ | exact duc_i _ | exact duc_ph _ | exact duc_fid _ | exact duc_vd _ | exact hwc | rfl | exact vrc_id x | exact hyd | exact stc_ph' _ | exact stc_fid' _ | exact stc_vd' _ | exact stc_ep' _ | exact stc_vs' _ | exact stc_is' _ | rfl) ?_)
                      clear hl a; intro a hl
                      refine wl (wl_val hl rfl trivial (r_lenS hl rfl slc75) ?_)
                      clear hl a; intro a hl
                      refine wl (wl_val hl rfl trivial (r_move hl rfl) ?_)
                      clear hl a; intro a hl
                      refine w_nil ?_
                      have hl2 := hl.add (t := 3) (hl.add (t := 4) (hl.add (t := 111) (hl.add (t := 112) (hl.add (t := 113) (hl.nil) rfl) rfl) rfl) rfl) rfl; clear hl; have hl := hl2; clear hl2
                      refine then_normal ?_
                      refine wp_block ?_
                      obtain ⟨KS1, hKS1, hk⟩ := (hl.add (t := 3) (hl.add (t := 4) (hl.add (t := 111) (hl.add (t := 112) (hl.nil) rfl) rfl) rfl) rfl).name
                      obtain ⟨HS1, hHS1, hh2⟩ := hh.name (keeps_nil)
                      refine c_loop (α := Nat) (fun i => s'.is.length - i) (fun i a w => (i ≤ s'.is.length) ∧ Sl 140 ([(113, .int .i64 (i : Int))] ++ KS1) a ∧ Has _ w0 ([] ++ HS1) w) 0 ⟨Nat.zero_le _, hl.addE (t := 113) (hk) rfl (by first | rfl), hh2⟩ ?_
                      clear hk hh2 hl hh a w
                      intro i a w hI
                      obtain ⟨hi, hl, hh⟩ := hI
                      subst hKS1; subst hHS1
                      simp only [List.cons_append, List.nil_append, List.append_nil, List.append_assoc] at hl hh
                      refine c_seq ?_
                      refine c_region ?_
                      refine wl (wl_val hl rfl trivial (r_lss hl rfl rfl) ?_)
                      clear hl a; intro a hl
                      refine w_nil ?_
                      have hl2 := hl.add (t := 3) (hl.add (t := 4) (hl.add (t := 111) (hl.add (t := 112) (hl.add (t := 113) (hl.add (t := 114) (hl.nil) rfl) rfl) rfl) rfl) rfl) rfl; clear hl; have hl := hl2; clear hl2
                      refine then_normal ?_
                      refine c_seq ?_
                      refine c_cond hl rfl ?_ ?_
                      · intro hc4
                        try simp only [decide_eq_true_eq, decide_eq_false_iff_not, Bool.not_eq_true', Bool.not_eq_false', Bool.not_eq_true, Bool.not_eq_false, Bool.and_eq_true, Bool.or_eq_true, Bool.and_eq_false_iff, Bool.or_eq_false_iff, Bool.not_not, ne_eq, Int.not_lt, Int.not_le, Decidable.not_not, beq_iff_eq, bne_iff_ne] at hc4
                        obtain ⟨v, hv⟩ : ∃ v, s'.is[i]? = some v := ⟨_, List.getElem?_eq_getElem (by omega)⟩
                        have hvo := hs'.io v (List.mem_of_getElem? hv)
                        have hv2 : m.d.is[i]? = some v := by rw [← his]; exact hv
                        obtain ⟨b4, j4, hq4, hjl4, hjc4, hE4⟩ := row_pos hs'.i (by omega)
                        obtain ⟨b5, j5, hq5, hjl5, hjc5, hE5⟩ := row_pos hd.i (by omega)
                        have hmem4 : (b4, C (fl ivc s'.is ++ j4) 43) ∈ s'.iE := by rw [hE4]; exact List.mem_singleton.2 rfl
                        have hmem5 : (b5, C (fl ivc m.d.is ++ j5) 43) ∈ m.d.iE := by rw [hE5]; exact List.mem_singleton.2 rfl
                        have hd4 : ((fl ivc s'.is ++ j4).drop (0 + i * 6)).take 6 = [.int .u8 v.k, .int .u8 v.a, .int .u8 v.b, .int .u8 v.w, .int .u8 v.da, .int .u8 v.dl] := fl_at ivc_len hv j4
                        have hd5 : ((fl ivc m.d.is ++ j5).drop (0 + i * 6)).take 6 = [.int .u8 v.k, .int .u8 v.a, .int .u8 v.b, .int .u8 v.w, .int .u8 v.da, .int .u8 v.dl] := fl_at ivc_len hv2 j5
                        have heq := (eqI hvo hvo).2 rfl
                        rw [hq4] at hl
                        refine wp_skip ?_
                        refine then_normal ?_
                        refine c_seq ?_
                        refine wp_block ?_
                        refine c_seq ?_
                        refine c_region ?_
                        refine wl (wl_val hl rfl trivial (r_move hl rfl) ?_)
                        clear hl a; intro a hl
                        refine wl (wl_val hl rfl trivial (r_indexS hl rfl rfl slc75 (by omega) (by omega) (by first | (simp only [Int.reduceToNat]; rfl) | exact toNat_add1 _ | exact toNat_add2 _ _ | exact toNat_emod _ _ | exact Int.toNat_natCast _ | rfl)) ?_)
                        clear hl a; intro a hl
                        first | refine wl (w_loadA hl hh rfl trivial agg43 rfl (by repeat (first | exact find_head | apply find_tail | apply find_skip)) (by first | (simp only [List.getElem?_cons_zero, List.getElem?_cons_succ, Value.cells, List.take_zero, List.take_succ_cons, List.take_nil, List.drop_zero, List.drop_succ_cons, List.drop_nil, List.length_cons, List.length_nil, List.cons_append, List.nil_append, List.append_nil, Nat.zero_add, Nat.add_zero, Nat.reduceAdd, Nat.reduceBEq, Nat.reduceEqDiff, Nat.ble, BEq.rfl, Bool.and_true, Bool.and_self, cond_true, beq_self_eq_true]; rfl)) (by first | rfl | (simp; done)) ?_) | refine wl (wl_val hl rfl trivial (r_loadA hl rfl agg43 (hh.mem _ _ (by repeat (first | exact hmem4 | exact List.mem_append_left _ hmem4 | apply List.mem_cons_of_mem | apply List.mem_append_right))) hd4 rfl) ?_) | refine wl (wl_val hl rfl trivial (r_loadA hl rfl agg43 (hh.mem _ _ (by repeat (first | exact hmem5 | exact List.mem_append_left _ hmem5 | apply List.mem_cons_of_mem | apply List.mem_append_right))) hd5 rfl) ?_)
                        clear hl a; intro a hl
                        refine wl (w_alloc hl hh rfl trivial zero43 rfl ?_)
                        clear hl hh a w; intro k8 a w hl hh
                        refine wl (wl_val hl rfl trivial (r_assign hl rfl) ?_)
                        clear hl a; intro a hl
                        refine wl (w_storeA hl hh trivial agg43 rfl rfl (by repeat (first | exact find_head | apply find_tail | apply find_skip)) (by first | rfl | (simp; done)) (by first | (simp; done) | (simp; omega) | (rw [mdc_len]; omega) | (rw [mdc_len]; simp; done) | (rw [duc_len]; omega) | (rw [duc_len]; simp; done)) (by first | rfl | (simp; done) | rfl) (by first | exact mdc_sup _ _ | exact mdc_stk _ _ | exact mdc_sau _ _ | exact mdc_sfl _ _ | exact mdc_sfu _ _ | exact mdc_skp _ _ | (simp only [setL, List.getElem?_cons_zero, List.getElem?_cons_succ, Value.cells, List.take_zero, List.take_succ_cons, List.take_nil, List.drop_zero, List.drop_succ_cons, List.drop_nil, List.length_cons, List.length_nil, List.cons_append, List.nil_append, List.append_nil, Nat.zero_add, Nat.add_zero, Nat.reduceAdd, Nat.reduceBEq, Nat.reduceEqDiff, Nat.ble, BEq.rfl, Bool.and_true, Bool.and_self, cond_true, beq_self_eq_true]; rfl)) ?_)
                        clear hh w; intro w hh
                        refine w_nil ?_
                        have hl2 := hl.add (t := 3) (hl.add (t := 4) (hl.add (t := 7) (hl.add (t := 8) (hl.add (t := 111) (hl.add (t := 112) (hl.add (t := 113) (hl.nil) rfl) rfl) rfl) rfl) rfl) rfl) rfl; clear hl; have hl := hl2; clear hl2
                        refine then_normal ?_
                        refine c_seq ?_
                        refine c_draw [(k8, C [.int .u8 v.k, .int .u8 v.a, .int .u8 v.b, .int .u8 v.w, .int .u8 v.da, .int .u8 v.dl] 43), (k4, C m.d.c 78)] [6] mixed hh ?_
                        clear hh w; intro w hh
                        have hM : Mem [(k8, C [.int .u8 v.k, .int .u8 v.a, .int .u8 v.b, .int .u8 v.w, .int .u8 v.da, .int .u8 v.dl] 43), (k4, C m.d.c 78)] w := (memK hh (by repeat (first | exact keeps_nil | apply keeps_cons (by repeat (first | exact find_head | apply find_tail | apply find_skip)) (by first  | rfl) | exact keeps_self | exact keeps_left | apply keeps_app | apply keeps_mv | apply keeps_skip)))
                        refine d_take (i := 0) hl rfl (by kernel_rfl) (by kernel_rfl) (by kernel_rfl) (by kernel_rfl) (by kernel_rfl) rfl trivial (fun _ _ _ h => h) hM (fun w hC => r_loadCA hl rfl agg43 hC (by repeat (first | exact find_head | apply find_tail | apply find_skip)) (by first | (simp only [List.getElem?_cons_zero, List.getElem?_cons_succ, Value.cells, List.take_zero, List.take_succ_cons, List.take_nil, List.drop_zero, List.drop_succ_cons, List.drop_nil, List.length_cons, List.length_nil, List.cons_append, List.nil_append, List.append_nil, Nat.zero_add, Nat.add_zero, Nat.reduceAdd, Nat.reduceBEq, Nat.reduceEqDiff, Nat.ble, BEq.rfl, Bool.and_true, Bool.and_self, cond_true, beq_self_eq_true]; rfl)) (by first | rfl | (simp; done))) rfl ?_
                        clear hl a; intro a hl
                        refine d_take (i := 1) hl rfl (by kernel_rfl) (by kernel_rfl) (by kernel_rfl) (by kernel_rfl) (by kernel_rfl) rfl trivial (fun _ _ _ h => h) hM (fun w hC => r_field hl rfl fld78_3) rfl ?_
                        clear hl a; intro a hl
                        refine d_take (i := 2) hl rfl (by kernel_rfl) (by kernel_rfl) (by kernel_rfl) (by kernel_rfl) (by kernel_rfl) rfl trivial (fun _ _ _ h => h) hM (fun w hC => r_loadC hl rfl one75 hC (by repeat (first | exact find_head | apply find_tail | apply find_skip)) (by first | exact mdc_ep _ | exact mdc_a _ | exact mdc_n _ | exact mdc_i _ | exact mdc_ph _ | exact mdc_fid _ | exact mdc_vd _ | exact mdc_up _ | exact mdc_q _ | exact mdc_rf _ | exact mdc_tk _ | exact mdc_au _ | exact mdc_fl _ | exact mdc_fu _ | exact mdc_kp _ | exact duc_ep _ | exact duc_a _ | exact duc_n _ | exact duc_i _ | exact duc_ph _ | exact duc_fid _ | exact duc_vd _ | exact hwc | rfl | exact vrc_id x | exact hyd | exact stc_ph' _ | exact stc_fid' _ | exact stc_vd' _ | exact stc_ep' _ | exact stc_vs' _ | exact stc_is' _ | rfl)) rfl ?_
                        clear hl a; intro a hl
                        rw [hq5] at hl
                        refine d_take (i := 3) hl rfl (by kernel_rfl) (by kernel_rfl) (by kernel_rfl) (by kernel_rfl) (by kernel_rfl) rfl trivial (fun _ _ _ h => h) hM (fun w hC => r_move hl rfl) rfl ?_
                        clear hl a; intro a hl
                        refine d_take (i := 4) hl rfl (by kernel_rfl) (by kernel_rfl) (by kernel_rfl) (by kernel_rfl) (by kernel_rfl) rfl trivial (fun _ _ _ h => h) hM (fun w hC => r_indexS hl rfl rfl slc75 (by omega) (by omega) (by first | (simp only [Int.reduceToNat]; rfl) | exact toNat_add1 _ | exact toNat_add2 _ _ | exact toNat_emod _ _ | exact Int.toNat_natCast _ | rfl)) rfl ?_
                        clear hl a; intro a hl
                        refine d_one (i := 5) (by kernel_rfl) rfl ?_
                        try clear hM
                        first | refine id (w_loadA hl hh rfl trivial agg43 rfl (by repeat (first | exact find_head | apply find_tail | apply find_skip)) (by first | (simp only [List.getElem?_cons_zero, List.getElem?_cons_succ, Value.cells, List.take_zero, List.take_succ_cons, List.take_nil, List.drop_zero, List.drop_succ_cons, List.drop_nil, List.length_cons, List.length_nil, List.cons_append, List.nil_append, List.append_nil, Nat.zero_add, Nat.add_zero, Nat.reduceAdd, Nat.reduceBEq, Nat.reduceEqDiff, Nat.ble, BEq.rfl, Bool.and_true, Bool.and_self, cond_true, beq_self_eq_true]; rfl)) (by first | rfl | (simp; done)) ?_) | refine id (wl_val hl rfl trivial (r_loadA hl rfl agg43 (hh.mem _ _ (by repeat (first | exact hmem4 | exact List.mem_append_left _ hmem4 | apply List.mem_cons_of_mem | apply List.mem_append_right))) hd4 rfl) ?_) | refine id (wl_val hl rfl trivial (r_loadA hl rfl agg43 (hh.mem _ _ (by repeat (first | exact hmem5 | exact List.mem_append_left _ hmem5 | apply List.mem_cons_of_mem | apply List.mem_append_right))) hd5 rfl) ?_)
                        clear hl a; intro a hl
                        have hM : Mem [(k8, C [.int .u8 v.k, .int .u8 v.a, .int .u8 v.b, .int .u8 v.w, .int .u8 v.da, .int .u8 v.dl] 43), (k4, C m.d.c 78)] w := (memK hh (by repeat (first | exact keeps_nil | apply keeps_cons (by repeat (first | exact find_head | apply find_tail | apply find_skip)) (by first  | rfl) | exact keeps_self | exact keeps_left | apply keeps_app | apply keeps_mv | apply keeps_skip)))
                        refine d_step (fun _ => hM) ?_
                        refine d_takeL (i := 6) hl rfl (by kernel_rfl) (by kernel_rfl) (by kernel_rfl) (by kernel_rfl) (by kernel_rfl) rfl trivial (fun _ _ _ h => h) (fun w => r_neqA hl rfl rfl eqf43 shp43 (by simp only [unlitL, unlit]; rfl) (by simp only [unlitL, unlit]; rfl) (by first | exact litsI hvo | exact ⟨trivial⟩ | (refine ⟨?_⟩; simp [LitsOk, litOk, Fits]; done) | (refine ⟨?_⟩; simp [LitsOk, litOk, Fits]; omega)) (by first | exact litsI hvo | exact ⟨trivial⟩ | (refine ⟨?_⟩; simp [LitsOk, litOk, Fits]; done) | (refine ⟨?_⟩; simp [LitsOk, litOk, Fits]; omega))) rfl ?_
                        clear hl a; intro a hl
                        refine d_done (by kernel_rfl) ?_
                        try clear hM
                        have hl2 := hl.add (t := 3) (hl.add (t := 4) (hl.add (t := 111) (hl.add (t := 112) (hl.add (t := 113) (hl.add (t := 124) (hl.nil) rfl) rfl) rfl) rfl) rfl) rfl; clear hl; have hl := hl2; clear hl2
                        refine then_normal ?_
                        refine c_cond hl rfl ?_ ?_
                        · intro hc5
                          try simp only [decide_eq_true_eq, decide_eq_false_iff_not, Bool.not_eq_true', Bool.not_eq_false', Bool.not_eq_true, Bool.not_eq_false, Bool.and_eq_true, Bool.or_eq_true, Bool.and_eq_false_iff, Bool.or_eq_false_iff, Bool.not_not, ne_eq, Int.not_lt, Int.not_le, Decidable.not_not, beq_iff_eq, bne_iff_ne] at hc5
                          exfalso; first | contradiction | omega | exact absurd rfl hc7 | (simp at hc3; done) | (rw [heq] at hc5; cases hc5)
                        · intro hc5
                          try simp only [decide_eq_true_eq, decide_eq_false_iff_not, Bool.not_eq_true', Bool.not_eq_false', Bool.not_eq_true, Bool.not_eq_false, Bool.and_eq_true, Bool.or_eq_true, Bool.and_eq_false_iff, Bool.or_eq_false_iff, Bool.not_not, ne_eq, Int.not_lt, Int.not_le, Decidable.not_not, beq_iff_eq, bne_iff_ne] at hc5
                          refine wp_skip ?_
                          refine blk_normal ?_
                          refine then_normal ?_
                          refine c_region ?_
                          first | refine wl (wl_val hl rfl trivial (r_add hl rfl rfl (by simp only [Fits]; omega)) ?_) | refine wl (wl_val hl rfl trivial (r_addW hl rfl rfl) ?_)
                          clear hl a; intro a hl
                          refine wl (wl_val hl rfl trivial (r_move hl rfl) ?_)
                          clear hl a; intro a hl
                          refine w_nil ?_
                          have hl2 := hl.add (t := 3) (hl.add (t := 4) (hl.add (t := 111) (hl.add (t := 112) (hl.add (t := 113) (hl.nil) rfl) rfl) rfl) rfl) rfl; clear hl; have hl := hl2; clear hl2
                          refine then_normal ?_
                          refine ⟨i + 1, (by omega), (by omega), hl.addE (t := 113) (hl.addE (t := 3) (hl.addE (t := 4) (hl.addE (t := 111) (hl.addE (t := 112) (hl.nil) rfl (by first | rfl | exact congrArg (Value.int .i64) (show (i : Int) + 1 = ((i + 1 : Nat) : Int) by omega) | (rw [hq4]))) rfl (by first | rfl | exact congrArg (Value.int .i64) (show (i : Int) + 1 = ((i + 1 : Nat) : Int) by omega) | (rw [hq4]))) rfl (by first | rfl | exact congrArg (Value.int .i64) (show (i : Int) + 1 = ((i + 1 : Nat) : Int) by omega) | (rw [hq4]))) rfl (by first | rfl | exact congrArg (Value.int .i64) (show (i : Int) + 1 = ((i + 1 : Nat) : Int) by omega) | (rw [hq4]))) rfl (by first | rfl | exact congrArg (Value.int .i64) (show (i : Int) + 1 = ((i + 1 : Nat) : Int) by omega) | (rw [hq4])), hh.keep (by repeat (first | exact keeps_nil | apply keeps_cons (by repeat (first | exact find_head | apply find_tail | apply find_skip)) (by first  | rfl) | exact keeps_self | exact keeps_left | apply keeps_app | apply keeps_mv | apply keeps_skip))⟩
                      · intro hc4
                        try simp only [decide_eq_true_eq, decide_eq_false_iff_not, Bool.not_eq_true', Bool.not_eq_false', Bool.not_eq_true, Bool.not_eq_false, Bool.and_eq_true, Bool.or_eq_true, Bool.and_eq_false_iff, Bool.or_eq_false_iff, Bool.not_not, ne_eq, Int.not_lt, Int.not_le, Decidable.not_not, beq_iff_eq, bne_iff_ne] at hc4
                        refine wp_exit ?_
                        refine then_exit ?_
                        refine then_exit ?_
                        refine blk_exit ?_
                        refine then_normal ?_
                        refine c_seq ?_
                        refine c_seq ?_
                        refine c_region ?_
                        refine wl (wl_val hl rfl trivial (r_field hl rfl fld89_4) ?_)
                        clear hl a; intro a hl
                        refine wl (w_load hl hh rfl trivial one74 rfl (by repeat (first | exact find_head | apply find_tail | apply find_skip)) (by first | exact mdc_ep _ | exact mdc_a _ | exact mdc_n _ | exact mdc_i _ | exact mdc_ph _ | exact mdc_fid _ | exact mdc_vd _ | exact mdc_up _ | exact mdc_q _ | exact mdc_rf _ | exact mdc_tk _ | exact mdc_au _ | exact mdc_fl _ | exact mdc_fu _ | exact mdc_kp _ | exact duc_ep _ | exact duc_a _ | exact duc_n _ | exact duc_i _ | exact duc_ph _ | exact duc_fid _ | exact duc_vd _ | exact hwc | rfl | exact vrc_id x | exact hyd | exact stc_ph' _ | exact stc_fid' _ | exact stc_vd' _ | exact stc_ep' _ | exact stc_vs' _ | exact stc_is' _ | rfl) ?_)
                        clear hl a; intro a hl
                        refine wl (w_range Tryz.underlying74 hl hh rfl trivial rfl (by repeat (first | exact find_head | apply find_tail | apply find_skip)) ?_)
                        clear hl hh a w; intro k128 a w hl hh
                        refine w_nil ?_
                        have hl2 := hl.add (t := 4) (hl.add (t := 128) (hl.nil) rfl) rfl; clear hl; have hl := hl2; clear hl2
                        refine then_normal ?_
                        refine wp_block ?_
                        obtain ⟨KS2, hKS2, hk⟩ := (hl.add (t := 4) (hl.add (t := 128) (hl.nil) rfl) rfl).name
                        obtain ⟨HS2, hHS2, hh2⟩ := hh.name (keeps_cons (b := k128) (o' := IT s'.vb s'.vd.length []) (by repeat (first | exact find_head | apply find_tail | apply find_skip)) (by first | rfl) (keeps_nil))
                        refine c_loop (α := CpS) (fun y => s'.vd.length - y.seen.length) (fun y a w => (y.seen.Nodup ∧ ∀ j, j ∈ y.seen → j < s'.vd.length) ∧ Sl 140 ([] ++ KS2) a ∧ Has _ w0 ([(k128, IT s'.vb s'.vd.length y.seen)] ++ HS2) w) ⟨[], []⟩ ⟨⟨List.nodup_nil, fun j h => (by cases h)⟩, hk, hh2⟩ ?_
                        clear hk hh2 hl hh a w
                        intro y a w hI
                        obtain ⟨⟨hy1, hy2⟩, hl, hh⟩ := hI
                        subst hKS2; subst hHS2
                        simp only [List.cons_append, List.nil_append, List.append_nil, List.append_assoc] at hl hh
                        have hyl := nodup_len9 hy1 hy2
                        refine c_seq ?_
                        refine c_region ?_
                        refine wl (w_next hl hh rfl trivial rfl (by repeat (first | exact find_head | apply find_tail | apply find_skip)) (by repeat (first | exact find_head | apply find_tail | apply find_skip)) ?_ ?_)
                        ·
                          intro hall; clear hl a; intro a hl
                          refine wl (wl_val hl rfl trivial (r_extract hl rfl (by simp only [List.getElem?_toArray, List.getElem?_cons_zero, List.getElem?_cons_succ]; rfl)) ?_)
                          clear hl a; intro a hl
                          refine w_nil ?_
                          have hl2 := hl.add (t := 4) (hl.add (t := 128) (hl.add (t := 130) (hl.nil) rfl) rfl) rfl; clear hl; have hl := hl2; clear hl2
                          refine then_normal ?_
                          refine c_seq ?_
                          refine c_condF hl rfl ?_
                          refine wp_exit ?_
                          refine then_exit ?_
                          refine then_exit ?_
                          refine blk_exit ?_
                          refine then_normal ?_
                          refine c_seq ?_
                          refine c_region ?_
                          refine wl (wl_val hl rfl trivial (r_assign hl rfl) ?_)
                          clear hl a; intro a hl
                          refine w_nil ?_
                          have hl2 := hl.add (t := 2) (hl.nil) rfl; clear hl; have hl := hl2; clear hl2
                          refine then_normal ?_
                          refine wp_ret ?_
                          refine f_ret1 (F' := (lb, C [.pointer (some ⟨wb, 0, none⟩), .pointer (some ⟨mb, 0, none⟩)] 32) :: (wb, C wc 55) :: (mb, C m.c 82) :: ((la, C l.c 91) :: (l.d.E ++ (((b1, C (fl idc m.d.vs ++ j1) 36) :: (b2, C (fl ntc m.d.ws ++ j2) 66) :: (m.d.iE ++ [(m.d.vb, MO (kInt .u32) m.d.vd)])) ++ (Y ++ Z))))) hl hh rfl rfl (by repeat (first | exact keeps_nil | apply keeps_cons (by repeat (first | exact find_head | apply find_tail | apply find_skip)) (by first  | rfl) | exact keeps_self | exact keeps_left | apply keeps_app | apply keeps_mv | apply keeps_skip)) ?_
                          exact ⟨rfl, by rw [DuV.E_eq m.d, hE1, hE2]; simp only [List.append_assoc, List.cons_append, List.nil_append]⟩
                        ·
                          intro j129 p129 hjn129 hn129; clear hl hh a w; intro a w hl hh
                          obtain ⟨c9, hcv, hcm⟩ := vd_at hs' hd hpm hjn129
                          have hyn1 : (y.seen ++ [j129]).Nodup := by
                            rw [List.nodup_append]
                            exact ⟨hy1, by simp, fun a ha b hb => by rw [List.mem_singleton.1 hb]; intro e; subst e; exact hn129 ha⟩
                          have hyn2 : ∀ j, j ∈ y.seen ++ [j129] → j < s'.vd.length := fun j hj => by
                            rcases List.mem_append.1 hj with h9 | h9
                            · exact hy2 j h9
                            · rw [List.mem_singleton.1 h9]; exact (List.getElem?_eq_some_iff.1 hjn129).1
                          refine wl (wl_val hl rfl trivial (r_extract hl rfl (by simp only [List.getElem?_toArray, List.getElem?_cons_zero, List.getElem?_cons_succ]; rfl)) ?_)
                          clear hl a; intro a hl
                          refine w_nil ?_
                          have hl2 := hl.add (t := 4) (hl.add (t := 128) (hl.add (t := 130) (hl.nil) rfl) rfl) rfl; clear hl; have hl := hl2; clear hl2
                          refine then_normal ?_
                          refine c_seq ?_
                          refine c_condT hl rfl ?_
                          refine wp_skip ?_
                          refine then_normal ?_
                          refine wp_block ?_
                          refine c_seq ?_
                          refine c_region ?_
                          refine wl (w_entry hjn129 hl hh rfl trivial rfl (by repeat (first | exact find_head | apply find_tail | apply find_skip)) (by repeat (first | exact find_head | apply find_tail | apply find_skip)) ?_)
                          clear hl a; intro a hl
                          refine wl (wl_val hl rfl trivial (r_extract hl rfl (by simp only [List.getElem?_toArray, List.getElem?_cons_zero, List.getElem?_cons_succ]; rfl)) ?_)
                          clear hl a; intro a hl
                          refine wl (wl_val hl rfl trivial (r_extract hl rfl (by simp only [List.getElem?_toArray, List.getElem?_cons_zero, List.getElem?_cons_succ]; rfl)) ?_)
                          clear hl a; intro a hl
                          rw [hcv] at hl
                          refine wl (wl_val hl rfl trivial (r_assign hl rfl) ?_)
                          clear hl a; intro a hl
                          refine wl (wl_val hl rfl trivial (r_assign hl rfl) ?_)
                          clear hl a; intro a hl
                          refine w_nil ?_
                          have hl2 := hl.add (t := 4) (hl.add (t := 9) (hl.add (t := 10) (hl.add (t := 128) (hl.nil) rfl) rfl) rfl) rfl; clear hl; have hl := hl2; clear hl2
                          refine then_normal ?_
                          refine c_seq ?_
                          refine c_region ?_
                          refine wl (wl_val hl rfl trivial (r_field hl rfl fld78_7) ?_)
                          clear hl a; intro a hl
                          refine wl (w_load hl hh rfl trivial one74 rfl (by repeat (first | exact find_head | apply find_tail | apply find_skip)) (by first | exact mdc_ep _ | exact mdc_a _ | exact mdc_n _ | exact mdc_i _ | exact mdc_ph _ | exact mdc_fid _ | exact mdc_vd _ | exact mdc_up _ | exact mdc_q _ | exact mdc_rf _ | exact mdc_tk _ | exact mdc_au _ | exact mdc_fl _ | exact mdc_fu _ | exact mdc_kp _ | exact duc_ep _ | exact duc_a _ | exact duc_n _ | exact duc_i _ | exact duc_ph _ | exact duc_fid _ | exact duc_vd _ | exact hwc | rfl | exact vrc_id x | exact hyd | exact stc_ph' _ | exact stc_fid' _ | exact stc_vd' _ | exact stc_ep' _ | exact stc_vs' _ | exact stc_is' _ | rfl) ?_)
                          clear hl a; intro a hl
                          refine wl (wl_val hl rfl trivial (r_move hl rfl) ?_)
                          clear hl a; intro a hl
                          refine wl (w_lookup (keyInt Tryz.underlying36) Tryz.underlying74 zero128 hl hh rfl trivial rfl rfl (by repeat (first | exact find_head | apply find_tail | apply find_skip)) ?_)
                          clear hl a; intro a hl
                          rw [hcm] at hl
                          try simp only [Option.getD_some] at hl
                          refine wl (wl_val hl rfl trivial (r_move hl rfl) ?_)
                          clear hl a; intro a hl
                          refine wl (wl_val hl rfl trivial (r_neq hl rfl rfl) ?_)
                          clear hl a; intro a hl
                          refine w_nil ?_
                          have hl2 := hl.add (t := 4) (hl.add (t := 128) (hl.add (t := 139) (hl.nil) rfl) rfl) rfl; clear hl; have hl := hl2; clear hl2
                          refine then_normal ?_
                          refine c_cond hl rfl ?_ ?_
                          · intro hc7
                            try simp only [decide_eq_true_eq, decide_eq_false_iff_not, Bool.not_eq_true', Bool.not_eq_false', Bool.not_eq_true, Bool.not_eq_false, Bool.and_eq_true, Bool.or_eq_true, Bool.and_eq_false_iff, Bool.or_eq_false_iff, Bool.not_not, ne_eq, Int.not_lt, Int.not_le, Decidable.not_not, beq_iff_eq, bne_iff_ne] at hc7
                            exfalso; first | contradiction | omega | exact absurd rfl hc7 | (simp at hc3; done) | (rw [heq] at hc5; cases hc5)
                          · intro hc7
                            try simp only [decide_eq_true_eq, decide_eq_false_iff_not, Bool.not_eq_true', Bool.not_eq_false', Bool.not_eq_true, Bool.not_eq_false, Bool.and_eq_true, Bool.or_eq_true, Bool.and_eq_false_iff, Bool.or_eq_false_iff, Bool.not_not, ne_eq, Int.not_lt, Int.not_le, Decidable.not_not, beq_iff_eq, bne_iff_ne] at hc7
                            refine wp_skip ?_
                            refine blk_normal ?_
                            refine then_normal ?_
                            refine ⟨⟨y.seen ++ [j129], []⟩, (by have := nodup_len9 hyn1 hyn2; simp only [List.length_append, List.length_singleton] at this ⊢; omega), ⟨hyn1, hyn2⟩, hl.addE (t := 4) (hl.addE (t := 128) (hl.nil) rfl (by first | rfl | (congr 1; omega))) rfl (by first | rfl | (congr 1; omega)), hh.keep (by repeat (first | exact keeps_nil | apply keeps_cons (by repeat (first | exact find_head | apply find_tail | apply find_skip)) (by first  | rfl) | exact keeps_self | exact keeps_left | apply keeps_app | apply keeps_mv | apply keeps_skip))⟩
end Go.Proofs.Qxb6500908aGreat

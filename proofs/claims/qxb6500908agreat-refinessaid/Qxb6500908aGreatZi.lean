import Derived.Test.Qxb6500908aGreatZh
import Derived.Test.Qxb6500908aGreatZf
import Derived.Test.Qxb6500908aGreatX12
namespace Go.Proofs.Qxb6500908aGreat
open Go.Eng
set_option linter.unusedVariables false
set_option linter.unusedSimpArgs false
theorem cal104 : callable Tryz.prog 104 = true := by kernel_rfl
theorem cal103 : callable Tryz.prog 103 = true := by kernel_rfl
theorem cal100 : callable Tryz.prog 100 = true := by kernel_rfl
theorem cal101 : callable Tryz.prog 101 = true := by kernel_rfl
theorem cal102 : callable Tryz.prog 102 = true := by kernel_rfl
/-- what the law knows: the gate, if it is up, and its ledger -/
structure RfX where
  g : Option GtP
  l : LdP
def MdX (Y : List (Nat × Obj)) (m : MdV) (x : RfX) : Prop := match x.g with
  | some g => MdR Y m g x.l
  | none => MdD Y m x.l
def RfM (lb wb : Nat) (x : RfX) (F : List (Nat × Obj)) : Prop := ∃ (mb : Nat) (m : MdV) (Y : List (Nat × Obj)), MdX Y m x ∧ F = (lb, C [.pointer (some ⟨wb, 0, none⟩), .pointer (some ⟨mb, 0, none⟩)] 32) :: MF mb m Y
theorem mdx_cm {Y : List (Nat × Obj)} {m : MdV} {x : RfX} (h : MdX Y m x) : m.d.ok Y ∧ m.d.pl = x.l.d ∧ m.fl = x.l.fl ∧ m.fu = x.l.fu ∧ m.kp = x.l.kp ∧ (0 ≤ m.fu ∧ m.fu ≤ 9223372036854775807) := by
  unfold MdX at h
  split at h
  · exact ⟨h.dok, h.d, h.fl, h.fu, h.kp, h.fb⟩
  · exact ⟨h.dok, h.d, h.fl, h.fu, h.kp, h.fb⟩
def rfFell (x : RfX) : RfX := ⟨none, { x.l with fu := 0 }⟩
def rfFate (k A B : Int) (x : RfX) : RfX := if k = 14 then ⟨x.g, { x.l with fu := if 0 < A then A else 0, kp := oddP B }⟩ else ⟨x.g, { x.l with fl := oddP A }⟩
theorem mdx_fell {Y : List (Nat × Obj)} {m : MdV} {x : RfX} (h : MdX Y m x) : MdX Y { m with up := false, fu := 0 } (rfFell x) := by
  obtain ⟨h1, h2, h3, h4, h5, h6⟩ := mdx_cm h
  exact ⟨h1, h2, rfl, h3, rfl, h5, by simp⟩
theorem mdx_arm {Y : List (Nat × Obj)} {m : MdV} {x : RfX} (h : MdX Y m x) {A : Int} (hA : A ≤ 9223372036854775807) (B : Int) : MdX Y { m with fu := if 0 < A then A else 0, kp := oddP B } (rfFate 14 A B x) := by
  have hb : 0 ≤ (if 0 < A then A else 0) ∧ (if 0 < A then A else 0) ≤ 9223372036854775807 := by split <;> omega
  unfold MdX at h ⊢
  unfold rfFate
  rw [if_pos rfl]
  simp only
  split
  · rename_i g e
    rw [e] at h
    exact ⟨h.dok, h.d, h.up, h.qr, h.qo, h.qp, h.r, h.ys, h.dn, h.tk, h.au, h.fl, rfl, rfl, hb⟩
  · rename_i e
    rw [e] at h
    exact ⟨h.dok, h.d, h.up, h.fl, rfl, rfl, hb⟩
theorem mdx_full {Y : List (Nat × Obj)} {m : MdV} {x : RfX} (h : MdX Y m x) {k A B : Int} (hk : ¬ k = 14) : MdX Y { m with fl := oddP A } (rfFate k A B x) := by
  unfold MdX at h ⊢
  unfold rfFate
  rw [if_neg hk]
  simp only
  split
  · rename_i g e
    rw [e] at h
    exact ⟨h.dok, h.d, h.up, h.qr, h.qo, h.qp, h.r, h.ys, h.dn, h.tk, h.au, rfl, h.fu, h.kp, h.fb⟩
  · rename_i e
    rw [e] at h
    exact ⟨h.dok, h.d, h.up, rfl, h.fu, h.kp, h.fb⟩
theorem MdR.clr {Y : List (Nat × Obj)} {m : MdV} {g : GtP} {l : LdP} (h : MdR Y m g l) : MdR Y m { g with out := [] } l := ⟨h.dok, h.d, h.up, h.qr, h.qo, h.qp, h.r, h.ys, h.dn, h.tk, h.au, h.fl, h.fu, h.kp, h.fb⟩
theorem gf_led2 (W : WoV) (Z : List (Nat × Obj)) (hW : W.ok Z) : ∃ G, (W.GF Z).Perm (LdV.F W.lb W.l ++ (Z ++ G)) := by
  unfold WoV.GF
  cases hg : W.g with
  | none => exact ⟨[], by simp only [List.append_nil]; exact List.Perm.refl _⟩
  | some y =>
    have hled := (hW.g y hg).2.1
    refine ⟨((y.1, C y.2.c 127) :: (y.2.st.E ++ (y.2.qE ++ ((y.2.rb, MD (kInt .u32) y.2.rl y.2.rn) :: y.2.oE)))), ?_⟩
    simp only
    unfold GF LdV.F
    rw [hled]
    have e : (y.1, C y.2.c 127) :: (y.2.st.E ++ (y.2.qE ++ ((y.2.rb, MD (kInt .u32) y.2.rl y.2.rn) :: (y.2.oE ++ ((W.lb, C W.l.c 91) :: (W.l.d.E ++ Z)))))) = ((y.1, C y.2.c 127) :: (y.2.st.E ++ (y.2.qE ++ ((y.2.rb, MD (kInt .u32) y.2.rl y.2.rn) :: y.2.oE)))) ++ ((W.lb, C W.l.c 91) :: (W.l.d.E ++ Z)) := by simp
    rw [e]
    refine List.perm_append_comm.trans ?_
    simp only [List.cons_append, List.append_assoc]
    exact List.Perm.refl _
theorem perm_sw (A B D : List (Nat × Obj)) : (A ++ (B ++ D)).Perm (B ++ (A ++ D)) := by
  rw [← List.append_assoc A B D, ← List.append_assoc B A D]
  exact List.Perm.append_right D List.perm_append_comm
theorem agreeW (lb wb mb : Nat) (W : WoV) (Z Y : List (Nat × Obj)) (hW : W.ok Z) (m : MdV) (hd : m.d.ok Y) (he : m.d.pl = W.l.pl.d) : Sp Tryz.prog 102 #[.pointer (some ⟨lb, 0, none⟩)] ((lb, C [.pointer (some ⟨wb, 0, none⟩), .pointer (some ⟨mb, 0, none⟩)] 32) :: (wb, C W.c 55) :: (mb, C m.c 82) :: (m.d.E ++ (Y ++ W.GF Z))) (fun v F' => v = .bool true ∧ F' = (lb, C [.pointer (some ⟨wb, 0, none⟩), .pointer (some ⟨mb, 0, none⟩)] 32) :: (wb, C W.c 55) :: (mb, C m.c 82) :: (m.d.E ++ (Y ++ W.GF Z))) := by
  obtain ⟨G, hG⟩ := gf_led2 W Z hW
  have hp : (m.d.E ++ (Y ++ W.GF Z)).Perm (((W.lb, C W.l.c 91) :: (W.l.d.E ++ (m.d.E ++ (Y ++ Z)))) ++ G) := by
    refine (List.Perm.append_left _ (List.Perm.append_left _ hG)).trans ?_
    unfold LdV.F
    have e1 : m.d.E ++ (Y ++ (((W.lb, C W.l.c 91) :: W.l.d.E) ++ (Z ++ G))) = (m.d.E ++ Y) ++ (((W.lb, C W.l.c 91) :: W.l.d.E) ++ (Z ++ G)) := by simp
    have e2 : ((W.lb, C W.l.c 91) :: (W.l.d.E ++ (m.d.E ++ (Y ++ Z)))) ++ G = ((W.lb, C W.l.c 91) :: W.l.d.E) ++ ((m.d.E ++ Y) ++ (Z ++ G)) := by simp
    rw [e1, e2]
    exact perm_sw _ _ _
  refine sp_fr (G := G) (agree_spec Z Y lb wb mb W.lb W.c (wc_led W) m W.l hW.l hd he) (List.Perm.cons _ (List.Perm.cons _ (List.Perm.cons _ hp))) fun v F2 ⟨h1, h2⟩ => ?_
  exact ⟨_, ⟨h1, rfl⟩, by rw [h2]; exact (List.Perm.cons _ (List.Perm.cons _ (List.Perm.cons _ hp))).symm⟩
theorem histW (W : WoV) (Z : List (Nat × Obj)) (hW : W.ok Z) {gb : Nat} {g : GtV} (hg : W.g = some (gb, g)) : Sp Tryz.prog 113 #[.pointer (some ⟨gb, 0, none⟩)] (W.GF Z) (fun v F' => ∃ p c E, Row (.slice p (if g.off then [] else g.st.vs).length c) (if g.off then [] else g.st.vs).length (fl idc (if g.off then [] else g.st.vs)) 1 36 E ∧ v = .slice p (if g.off then [] else g.st.vs).length c ∧ F' = E ++ W.GF Z) := by
  have hgo := (hW.g _ hg).1
  unfold WoV.GF
  rw [hg]
  simp only
  unfold GF
  refine sp_fr (hist_spec Z gb g hgo) (by exact List.Perm.refl (((gb, C g.c 127) :: g.st.E) ++ _)) fun v F2 ⟨p, c, E, h1, h2, h3⟩ => ?_
  exact ⟨_, ⟨p, c, E, h1, h2, rfl⟩, by rw [h3]; simp only [List.append_assoc, List.cons_append]; exact List.Perm.refl _⟩


attribute [local irreducible] NtV.k StV.c LdV.c StV.E GtV.c GtV.t DuV.c DuV.E MdV.c MdV.t orB sh1 WoV.c wst postP

set_option maxHeartbeats 1000000 in
theorem rfell_spec (lb wb mb : Nat) (m : MdV) (Y : List (Nat × Obj)) : Sp Tryz.prog 97 #[.pointer (some ⟨lb, 0, none⟩)] ((lb, C [.pointer (some ⟨wb, 0, none⟩), .pointer (some ⟨mb, 0, none⟩)] 32) :: MF mb m Y) (fun v F' => v = .tuple #[] ∧ F' = (lb, C [.pointer (some ⟨wb, 0, none⟩), .pointer (some ⟨mb, 0, none⟩)] 32) :: MF mb { m with up := false, fu := 0 } Y) := by
  refine f_enter (args := [.pointer (some ⟨lb, 0, none⟩)]) Tryz.func97 rfl Tryz.ntmps97 rfl ?_
  intro w0 w a hpre hl hh
  generalize hDD : List.map Prod.fst ((lb, C [.pointer (some ⟨wb, 0, none⟩), .pointer (some ⟨mb, 0, none⟩)] 32) :: MF mb m Y) = D at hh ⊢
  simp only [MF] at hh
  simp only [slotsFrom, Nat.reduceAdd] at hl
  refine c_region ?_
  refine wl (wl_val hl rfl trivial (r_move hl rfl) ?_)
  clear hl a; intro a hl
  refine wl (wl_val hl rfl trivial (r_nilCheck hl rfl) ?_)
  clear hl a; intro a hl
  refine wl (wl_val hl rfl trivial (r_field hl rfl fld32_1) ?_)
  clear hl a; intro a hl
  refine wl (w_load hl hh rfl trivial one26 rfl (by repeat (first | exact find_head | apply find_tail | apply find_skip)) (by first | rfl) ?_)
  clear hl a; intro a hl
  refine wl (w_call hl hh rfl trivial rfl cal104 rfl (mcrash_spec mb m) (by repeat (first | exact keeps_nil | apply keeps_cons (by repeat (first | exact find_head | apply find_tail | apply find_skip)) (by first  | rfl) | exact keeps_self | exact keeps_left | apply keeps_app | apply keeps_mv | apply keeps_skip)) trivial ?_)
  clear hl hh a w; intro vc Fc a w hR hl hh
  obtain ⟨rfl, rfl⟩ := hR
  try simp only [List.cons_append, List.nil_append, List.append_assoc, List.append_nil] at hh
  refine w_nil ?_
  have hl2 := hl.nil; clear hl; have hl := hl2; clear hl2
  refine f_end0 (F' := (lb, C [.pointer (some ⟨wb, 0, none⟩), .pointer (some ⟨mb, 0, none⟩)] 32) :: (mb, C (MdV.c { m with up := false, fu := 0 }) 82) :: (m.d.E ++ (m.qE ++ (m.rE ++ Y)))) hl hh rfl (by repeat (first | exact keeps_nil | apply keeps_cons (by repeat (first | exact find_head | apply find_tail | apply find_skip)) (by first  | rfl) | exact keeps_self | exact keeps_left | apply keeps_app | apply keeps_mv | apply keeps_skip)) ?_
  exact ⟨rfl, rfl⟩

set_option maxHeartbeats 4000000 in
theorem rfate_spec (lb wb mb : Nat) (m : MdV) (Y : List (Nat × Obj)) (k A B : Int) (rest : List Value) (hr : rest.length = 15) (h1 : rest.all (·.oneCell') = true) (hk : 0 ≤ k ∧ k ≤ 255) (hA : -9223372036854775808 ≤ A ∧ A ≤ 9223372036854775807) (hB : -9223372036854775808 ≤ B ∧ B ≤ 9223372036854775807) : Sp Tryz.prog 96 #[.pointer (some ⟨lb, 0, none⟩), .agg ⟨.int .u8 k :: .int .i64 A :: .int .i64 B :: rest⟩] ((lb, C [.pointer (some ⟨wb, 0, none⟩), .pointer (some ⟨mb, 0, none⟩)] 32) :: MF mb m Y) (fun v F' => v = .tuple #[] ∧ F' = (lb, C [.pointer (some ⟨wb, 0, none⟩), .pointer (some ⟨mb, 0, none⟩)] 32) :: MF mb (if k = 14 then { m with fu := if 0 < A then A else 0, kp := oddP B } else { m with fl := oddP A }) Y) := by
  refine f_enter (args := [.pointer (some ⟨lb, 0, none⟩), .agg ⟨(.int .u8 k :: .int .i64 A :: .int .i64 B :: rest)⟩]) Tryz.func96 rfl Tryz.ntmps96 rfl ?_
  intro w0 w a hpre hl hh
  generalize hDD : List.map Prod.fst ((lb, C [.pointer (some ⟨wb, 0, none⟩), .pointer (some ⟨mb, 0, none⟩)] 32) :: MF mb m Y) = D at hh ⊢
  simp only [MF] at hh
  simp only [slotsFrom, Nat.reduceAdd] at hl
  refine c_seq ?_
  refine c_region ?_
  refine wl (w_box hl hh rfl trivial rfl rfl ?_)
  clear hl hh a w; intro k3 a w hl hh
  refine w_nil ?_
  have hl2 := hl.add (t := 0) (hl.add (t := 3) (hl.nil) rfl) rfl; clear hl; have hl := hl2; clear hl2
  refine then_normal ?_
  refine c_seq ?_
  refine c_region ?_
  refine wl (wl_val hl rfl trivial (r_field hl rfl fld45_0) ?_)
  clear hl a; intro a hl
  refine wl (w_load hl hh rfl trivial one33 rfl (by repeat (first | exact find_head | apply find_tail | apply find_skip)) (by first | exact mdc_ep _ | exact mdc_a _ | exact mdc_n _ | exact mdc_i _ | exact mdc_ph _ | exact mdc_fid _ | exact mdc_vd _ | exact mdc_up _ | exact mdc_q _ | exact mdc_rf _ | exact mdc_tk _ | exact mdc_au _ | exact mdc_fl _ | exact mdc_fu _ | exact mdc_kp _ | exact duc_ep _ | exact duc_a _ | exact duc_n _ | exact duc_i _ | exact duc_ph _ | exact duc_fid _ | exact duc_vd _ | rfl | rfl) ?_)
  clear hl a; intro a hl
  refine wl (wl_val hl rfl trivial (r_eql hl rfl rfl) ?_)
  clear hl a; intro a hl
  refine w_nil ?_
  have hl2 := hl.add (t := 0) (hl.add (t := 3) (hl.add (t := 6) (hl.nil) rfl) rfl) rfl; clear hl; have hl := hl2; clear hl2
  refine then_normal ?_
  refine c_cond hl rfl ?_ ?_
  · intro hc0
    try simp only [decide_eq_true_eq, decide_eq_false_iff_not, Bool.not_eq_true', Bool.not_eq_false', Bool.not_eq_true, Bool.not_eq_false, Bool.and_eq_true, Bool.or_eq_true, Bool.and_eq_false_iff, Bool.or_eq_false_iff, Bool.not_not, ne_eq, Int.not_lt, Int.not_le, Decidable.not_not, beq_iff_eq, bne_iff_ne] at hc0
    have hif : (if k = 14 then { m with fu := if 0 < A then A else 0, kp := oddP B } else { m with fl := oddP A }) = ({ m with fu := if 0 < A then A else 0, kp := oddP B } : MdV) := if_pos hc0
    refine c_draw [(lb, C [.pointer (some ⟨wb, 0, none⟩), .pointer (some ⟨mb, 0, none⟩)] 32), (k3, C (.int .u8 k :: .int .i64 A :: .int .i64 B :: rest) 45)] [9] mixed hh ?_
    clear hh w; intro w hh
    have hM : Mem [(lb, C [.pointer (some ⟨wb, 0, none⟩), .pointer (some ⟨mb, 0, none⟩)] 32), (k3, C (.int .u8 k :: .int .i64 A :: .int .i64 B :: rest) 45)] w := (memK hh (by repeat (first | exact keeps_nil | apply keeps_cons (by repeat (first | exact find_head | apply find_tail | apply find_skip)) (by first  | rfl) | exact keeps_self | exact keeps_left | apply keeps_app | apply keeps_mv | apply keeps_skip)))
    refine d_take (i := 0) hl rfl (by kernel_rfl) (by kernel_rfl) (by kernel_rfl) (by kernel_rfl) (by kernel_rfl) rfl trivial (fun _ _ _ h => h) hM (fun w hC => r_move hl rfl) rfl ?_
    clear hl a; intro a hl
    refine d_take (i := 1) hl rfl (by kernel_rfl) (by kernel_rfl) (by kernel_rfl) (by kernel_rfl) (by kernel_rfl) rfl trivial (fun _ _ _ h => h) hM (fun w hC => r_nilCheck hl rfl) rfl ?_
    clear hl a; intro a hl
    refine d_take (i := 2) hl rfl (by kernel_rfl) (by kernel_rfl) (by kernel_rfl) (by kernel_rfl) (by kernel_rfl) rfl trivial (fun _ _ _ h => h) hM (fun w hC => r_field hl rfl fld32_1) rfl ?_
    clear hl a; intro a hl
    refine d_take (i := 3) hl rfl (by kernel_rfl) (by kernel_rfl) (by kernel_rfl) (by kernel_rfl) (by kernel_rfl) rfl trivial (fun _ _ _ h => h) hM (fun w hC => r_loadC hl rfl one26 hC (by repeat (first | exact find_head | apply find_tail | apply find_skip)) (by first | exact mdc_ep _ | exact mdc_a _ | exact mdc_n _ | exact mdc_i _ | exact mdc_ph _ | exact mdc_fid _ | exact mdc_vd _ | exact mdc_up _ | exact mdc_q _ | exact mdc_rf _ | exact mdc_tk _ | exact mdc_au _ | exact mdc_fl _ | exact mdc_fu _ | exact mdc_kp _ | exact duc_ep _ | exact duc_a _ | exact duc_n _ | exact duc_i _ | exact duc_ph _ | exact duc_fid _ | exact duc_vd _ | rfl | rfl)) rfl ?_
    clear hl a; intro a hl
    refine d_take (i := 4) hl rfl (by kernel_rfl) (by kernel_rfl) (by kernel_rfl) (by kernel_rfl) (by kernel_rfl) rfl trivial (fun _ _ _ h => h) hM (fun w hC => r_field hl rfl fld45_1) rfl ?_
    clear hl a; intro a hl
    refine d_take (i := 5) hl rfl (by kernel_rfl) (by kernel_rfl) (by kernel_rfl) (by kernel_rfl) (by kernel_rfl) rfl trivial (fun _ _ _ h => h) hM (fun w hC => r_loadC hl rfl one3 hC (by repeat (first | exact find_head | apply find_tail | apply find_skip)) (by first | exact mdc_ep _ | exact mdc_a _ | exact mdc_n _ | exact mdc_i _ | exact mdc_ph _ | exact mdc_fid _ | exact mdc_vd _ | exact mdc_up _ | exact mdc_q _ | exact mdc_rf _ | exact mdc_tk _ | exact mdc_au _ | exact mdc_fl _ | exact mdc_fu _ | exact mdc_kp _ | exact duc_ep _ | exact duc_a _ | exact duc_n _ | exact duc_i _ | exact duc_ph _ | exact duc_fid _ | exact duc_vd _ | rfl | rfl)) rfl ?_
    clear hl a; intro a hl
    refine d_take (i := 6) hl rfl (by kernel_rfl) (by kernel_rfl) (by kernel_rfl) (by kernel_rfl) (by kernel_rfl) rfl trivial (fun _ _ _ h => h) hM (fun w hC => r_field hl rfl fld45_2) rfl ?_
    clear hl a; intro a hl
    refine d_take (i := 7) hl rfl (by kernel_rfl) (by kernel_rfl) (by kernel_rfl) (by kernel_rfl) (by kernel_rfl) rfl trivial (fun _ _ _ h => h) hM (fun w hC => r_loadC hl rfl one3 hC (by repeat (first | exact find_head | apply find_tail | apply find_skip)) (by first | exact mdc_ep _ | exact mdc_a _ | exact mdc_n _ | exact mdc_i _ | exact mdc_ph _ | exact mdc_fid _ | exact mdc_vd _ | exact mdc_up _ | exact mdc_q _ | exact mdc_rf _ | exact mdc_tk _ | exact mdc_au _ | exact mdc_fl _ | exact mdc_fu _ | exact mdc_kp _ | exact duc_ep _ | exact duc_a _ | exact duc_n _ | exact duc_i _ | exact duc_ph _ | exact duc_fid _ | exact duc_vd _ | rfl | rfl)) rfl ?_
    clear hl a; intro a hl
    refine d_one (i := 8) (by kernel_rfl) rfl ?_
    try clear hM
    refine id (w_call hl hh rfl trivial rfl cal18 rfl (odd_spec B hB) (by repeat (first | exact keeps_nil | apply keeps_cons (by repeat (first | exact find_head | apply find_tail | apply find_skip)) (by first  | rfl) | exact keeps_self | exact keeps_left | apply keeps_app | apply keeps_mv | apply keeps_skip)) trivial ?_)
    clear hl hh a w; intro vc Fc a w hR hl hh
    obtain ⟨rfl, rfl⟩ := hR
    try simp only [List.cons_append, List.nil_append, List.append_assoc, List.append_nil] at hh
    have hM : Mem [(lb, C [.pointer (some ⟨wb, 0, none⟩), .pointer (some ⟨mb, 0, none⟩)] 32), (k3, C (.int .u8 k :: .int .i64 A :: .int .i64 B :: rest) 45)] w := (memK hh (by repeat (first | exact keeps_nil | apply keeps_cons (by repeat (first | exact find_head | apply find_tail | apply find_skip)) (by first  | rfl) | exact keeps_self | exact keeps_left | apply keeps_app | apply keeps_mv | apply keeps_skip)))
    refine d_step (fun _ => hM) ?_
    refine d_one (i := 9) (by kernel_rfl) rfl ?_
    try clear hM
    refine id (w_call hl hh rfl trivial rfl cal103 rfl (marm_spec mb m A hA.2 (oddP B)) (by repeat (first | exact keeps_nil | apply keeps_cons (by repeat (first | exact find_head | apply find_tail | apply find_skip)) (by first  | rfl) | exact keeps_self | exact keeps_left | apply keeps_app | apply keeps_mv | apply keeps_skip)) trivial ?_)
    clear hl hh a w; intro vc Fc a w hR hl hh
    obtain ⟨rfl, rfl⟩ := hR
    try simp only [List.cons_append, List.nil_append, List.append_assoc, List.append_nil] at hh
    refine d_step (fun h => absurd h (by decide)) ?_
    refine d_done (by kernel_rfl) ?_
    try clear hM
    have hl2 := hl.nil; clear hl; have hl := hl2; clear hl2
    rw [hif]
    first
    | (refine f_end0 (F' := (lb, C [.pointer (some ⟨wb, 0, none⟩), .pointer (some ⟨mb, 0, none⟩)] 32) :: (mb, C (MdV.c { m with fu := if 0 < A then A else 0, kp := oddP B }) 82) :: (m.d.E ++ (m.qE ++ (m.rE ++ Y)))) hl hh rfl (by repeat (first | exact keeps_nil | apply keeps_cons (by repeat (first | exact find_head | apply find_tail | apply find_skip)) (by first  | rfl) | exact keeps_self | exact keeps_left | apply keeps_app | apply keeps_mv | apply keeps_skip)) ?_; exact ⟨rfl, rfl⟩)
    | (refine f_end0 (F' := (lb, C [.pointer (some ⟨wb, 0, none⟩), .pointer (some ⟨mb, 0, none⟩)] 32) :: (mb, C (MdV.c { m with fl := oddP A }) 82) :: (m.d.E ++ (m.qE ++ (m.rE ++ Y)))) hl hh rfl (by repeat (first | exact keeps_nil | apply keeps_cons (by repeat (first | exact find_head | apply find_tail | apply find_skip)) (by first  | rfl) | exact keeps_self | exact keeps_left | apply keeps_app | apply keeps_mv | apply keeps_skip)) ?_; exact ⟨rfl, rfl⟩)
  · intro hc0
    try simp only [decide_eq_true_eq, decide_eq_false_iff_not, Bool.not_eq_true', Bool.not_eq_false', Bool.not_eq_true, Bool.not_eq_false, Bool.and_eq_true, Bool.or_eq_true, Bool.and_eq_false_iff, Bool.or_eq_false_iff, Bool.not_not, ne_eq, Int.not_lt, Int.not_le, Decidable.not_not, beq_iff_eq, bne_iff_ne] at hc0
    have hif : (if k = 14 then { m with fu := if 0 < A then A else 0, kp := oddP B } else { m with fl := oddP A }) = ({ m with fl := oddP A } : MdV) := if_neg hc0
    refine c_draw [(lb, C [.pointer (some ⟨wb, 0, none⟩), .pointer (some ⟨mb, 0, none⟩)] 32), (k3, C (.int .u8 k :: .int .i64 A :: .int .i64 B :: rest) 45)] [7, 8, 9] mixed hh ?_
    clear hh w; intro w hh
    have hM : Mem [(lb, C [.pointer (some ⟨wb, 0, none⟩), .pointer (some ⟨mb, 0, none⟩)] 32), (k3, C (.int .u8 k :: .int .i64 A :: .int .i64 B :: rest) 45)] w := (memK hh (by repeat (first | exact keeps_nil | apply keeps_cons (by repeat (first | exact find_head | apply find_tail | apply find_skip)) (by first  | rfl) | exact keeps_self | exact keeps_left | apply keeps_app | apply keeps_mv | apply keeps_skip)))
    refine d_take (i := 0) hl rfl (by kernel_rfl) (by kernel_rfl) (by kernel_rfl) (by kernel_rfl) (by kernel_rfl) rfl trivial (fun _ _ _ h => h) hM (fun w hC => r_move hl rfl) rfl ?_
    clear hl a; intro a hl
    refine d_take (i := 1) hl rfl (by kernel_rfl) (by kernel_rfl) (by kernel_rfl) (by kernel_rfl) (by kernel_rfl) rfl trivial (fun _ _ _ h => h) hM (fun w hC => r_nilCheck hl rfl) rfl ?_
    clear hl a; intro a hl
    refine d_take (i := 2) hl rfl (by kernel_rfl) (by kernel_rfl) (by kernel_rfl) (by kernel_rfl) (by kernel_rfl) rfl trivial (fun _ _ _ h => h) hM (fun w hC => r_field hl rfl fld32_1) rfl ?_
    clear hl a; intro a hl
    refine d_take (i := 3) hl rfl (by kernel_rfl) (by kernel_rfl) (by kernel_rfl) (by kernel_rfl) (by kernel_rfl) rfl trivial (fun _ _ _ h => h) hM (fun w hC => r_loadC hl rfl one26 hC (by repeat (first | exact find_head | apply find_tail | apply find_skip)) (by first | exact mdc_ep _ | exact mdc_a _ | exact mdc_n _ | exact mdc_i _ | exact mdc_ph _ | exact mdc_fid _ | exact mdc_vd _ | exact mdc_up _ | exact mdc_q _ | exact mdc_rf _ | exact mdc_tk _ | exact mdc_au _ | exact mdc_fl _ | exact mdc_fu _ | exact mdc_kp _ | exact duc_ep _ | exact duc_a _ | exact duc_n _ | exact duc_i _ | exact duc_ph _ | exact duc_fid _ | exact duc_vd _ | rfl | rfl)) rfl ?_
    clear hl a; intro a hl
    refine d_take (i := 4) hl rfl (by kernel_rfl) (by kernel_rfl) (by kernel_rfl) (by kernel_rfl) (by kernel_rfl) rfl trivial (fun _ _ _ h => h) hM (fun w hC => r_field hl rfl fld45_1) rfl ?_
    clear hl a; intro a hl
    refine d_take (i := 5) hl rfl (by kernel_rfl) (by kernel_rfl) (by kernel_rfl) (by kernel_rfl) (by kernel_rfl) rfl trivial (fun _ _ _ h => h) hM (fun w hC => r_loadC hl rfl one3 hC (by repeat (first | exact find_head | apply find_tail | apply find_skip)) (by first | exact mdc_ep _ | exact mdc_a _ | exact mdc_n _ | exact mdc_i _ | exact mdc_ph _ | exact mdc_fid _ | exact mdc_vd _ | exact mdc_up _ | exact mdc_q _ | exact mdc_rf _ | exact mdc_tk _ | exact mdc_au _ | exact mdc_fl _ | exact mdc_fu _ | exact mdc_kp _ | exact duc_ep _ | exact duc_a _ | exact duc_n _ | exact duc_i _ | exact duc_ph _ | exact duc_fid _ | exact duc_vd _ | rfl | rfl)) rfl ?_
    clear hl a; intro a hl
    refine d_one (i := 6) (by kernel_rfl) rfl ?_
    try clear hM
    refine id (w_call hl hh rfl trivial rfl cal18 rfl (odd_spec A hA) (by repeat (first | exact keeps_nil | apply keeps_cons (by repeat (first | exact find_head | apply find_tail | apply find_skip)) (by first  | rfl) | exact keeps_self | exact keeps_left | apply keeps_app | apply keeps_mv | apply keeps_skip)) trivial ?_)
    clear hl hh a w; intro vc Fc a w hR hl hh
    obtain ⟨rfl, rfl⟩ := hR
    try simp only [List.cons_append, List.nil_append, List.append_assoc, List.append_nil] at hh
    have hM : Mem [(lb, C [.pointer (some ⟨wb, 0, none⟩), .pointer (some ⟨mb, 0, none⟩)] 32), (k3, C (.int .u8 k :: .int .i64 A :: .int .i64 B :: rest) 45)] w := (memK hh (by repeat (first | exact keeps_nil | apply keeps_cons (by repeat (first | exact find_head | apply find_tail | apply find_skip)) (by first  | rfl) | exact keeps_self | exact keeps_left | apply keeps_app | apply keeps_mv | apply keeps_skip)))
    refine d_step (fun _ => hM) ?_
    refine d_takeL (i := 7) hl rfl (by kernel_rfl) (by kernel_rfl) (by kernel_rfl) (by kernel_rfl) (by kernel_rfl) rfl trivial (fun _ _ _ h => h) (fun w => r_nilCheck hl rfl) rfl ?_
    clear hl a; intro a hl
    refine d_takeL (i := 8) hl rfl (by kernel_rfl) (by kernel_rfl) (by kernel_rfl) (by kernel_rfl) (by kernel_rfl) rfl trivial (fun _ _ _ h => h) (fun w => r_field hl rfl fld82_8) rfl ?_
    clear hl a; intro a hl
    refine d_one (i := 9) (by kernel_rfl) rfl ?_
    try clear hM
    refine id (w_store hl hh trivial one4 rfl rfl (by repeat (first | exact find_head | apply find_tail | apply find_skip)) (by first | (simp; done) | (simp; omega) | (rw [mdc_len]; omega) | (rw [mdc_len]; simp; done) | (rw [duc_len]; omega) | (rw [duc_len]; simp; done)) (by first | rfl | assumption | (apply Row.one; assumption)) (by first | exact mdc_sup _ _ | exact mdc_stk _ _ | exact mdc_sau _ _ | exact mdc_sfl _ _ | exact mdc_sfu _ _ | exact mdc_skp _ _ | (simp only [setL, List.getElem?_cons_zero, List.getElem?_cons_succ, Value.cells, List.take_zero, List.take_succ_cons, List.take_nil, List.drop_zero, List.drop_succ_cons, List.drop_nil, List.length_cons, List.length_nil, List.cons_append, List.nil_append, List.append_nil, Nat.zero_add, Nat.add_zero, Nat.reduceAdd, Nat.reduceBEq, Nat.reduceEqDiff, Nat.ble, BEq.rfl, Bool.and_true, Bool.and_self, cond_true, beq_self_eq_true]; rfl)) ?_)
    clear hh w; intro w hh
    refine d_step (fun h => absurd h (by decide)) ?_
    refine d_done (by kernel_rfl) ?_
    try clear hM
    have hl2 := hl.nil; clear hl; have hl := hl2; clear hl2
    rw [hif]
    first
    | (refine f_end0 (F' := (lb, C [.pointer (some ⟨wb, 0, none⟩), .pointer (some ⟨mb, 0, none⟩)] 32) :: (mb, C (MdV.c { m with fu := if 0 < A then A else 0, kp := oddP B }) 82) :: (m.d.E ++ (m.qE ++ (m.rE ++ Y)))) hl hh rfl (by repeat (first | exact keeps_nil | apply keeps_cons (by repeat (first | exact find_head | apply find_tail | apply find_skip)) (by first  | rfl) | exact keeps_self | exact keeps_left | apply keeps_app | apply keeps_mv | apply keeps_skip)) ?_; exact ⟨rfl, rfl⟩)
    | (refine f_end0 (F' := (lb, C [.pointer (some ⟨wb, 0, none⟩), .pointer (some ⟨mb, 0, none⟩)] 32) :: (mb, C (MdV.c { m with fl := oddP A }) 82) :: (m.d.E ++ (m.qE ++ (m.rE ++ Y)))) hl hh rfl (by repeat (first | exact keeps_nil | apply keeps_cons (by repeat (first | exact find_head | apply find_tail | apply find_skip)) (by first  | rfl) | exact keeps_self | exact keeps_left | apply keeps_app | apply keeps_mv | apply keeps_skip)) ?_; exact ⟨rfl, rfl⟩)

set_option maxHeartbeats 4000000 in
theorem rboot_spec (lb wb mb : Nat) (W : WoV) (Z : List (Nat × Obj)) (hW : W.ok Z) (s : StV) (hs : s.ok Z) (ok : Bool) (sent : List Ms) (q : Option Addr) (cq : Nat) (Es : List (Nat × Obj)) (hR : ROWB q sent cq Es) (hsl : sent.length ≤ 100) (hso : ∀ m, m ∈ sent → m.ok) (m : MdV) (Y : List (Nat × Obj)) (l : LdP) (hm : MdD Y m l) (hep : l.d.ep < 4294967295) (hd : W.l.pl.d = (bootP l).2.d) (hok : ok = (bootP l).1.isSome) (hse : sent = sentB (bootP l)) : Sp Tryz.prog 95 #[.pointer (some ⟨lb, 0, none⟩), .agg ⟨s.c⟩, .bool ok, .slice q sent.length cq] (((lb, C [.pointer (some ⟨wb, 0, none⟩), .pointer (some ⟨mb, 0, none⟩)] 32) :: MF mb m Y) ++ (s.E ++ (WoV.F wb W Z ++ Es))) (fun v F' => v = .bool true ∧ ∃ (m' : MdV) (G : List (Nat × Obj)), MdX (Y ++ G) m' ⟨upB (bootP l), (bootP l).2⟩ ∧ F' = ((lb, C [.pointer (some ⟨wb, 0, none⟩), .pointer (some ⟨mb, 0, none⟩)] 32) :: MF mb m' (Y ++ G)) ++ (WoV.F wb W Z ++ Es)) := by
  refine f_enter (args := [.pointer (some ⟨lb, 0, none⟩), .agg ⟨s.c⟩, .bool ok, .slice q sent.length cq]) Tryz.func95 rfl Tryz.ntmps95 rfl ?_
  intro w0 w a hpre hl hh
  generalize hDD : List.map Prod.fst (((lb, C [.pointer (some ⟨wb, 0, none⟩), .pointer (some ⟨mb, 0, none⟩)] 32) :: MF mb m Y) ++ (s.E ++ (WoV.F wb W Z ++ Es))) = D at hh ⊢
  simp only [WoV.F, MF, List.append_assoc, List.cons_append] at hh
  simp only [slotsFrom, Nat.reduceAdd] at hl
  refine c_seq ?_
  refine c_region ?_
  refine wl (w_box hl hh rfl trivial rfl rfl ?_)
  clear hl hh a w; intro k5 a w hl hh
  refine wl (wl_val hl rfl trivial (r_assign hl rfl) ?_)
  clear hl a; intro a hl
  refine w_nil ?_
  have hl2 := hl.add (t := 0) (hl.add (t := 2) (hl.add (t := 3) (hl.nil) rfl) rfl) rfl; clear hl; have hl := hl2; clear hl2
  refine then_normal ?_
  refine c_seq ?_
  refine c_region ?_
  refine wl (wl_val hl rfl trivial (r_move hl rfl) ?_)
  clear hl a; intro a hl
  refine wl (wl_val hl rfl trivial (r_nilCheck hl rfl) ?_)
  clear hl a; intro a hl
  refine wl (wl_val hl rfl trivial (r_field hl rfl fld32_1) ?_)
  clear hl a; intro a hl
  refine wl (w_load hl hh rfl trivial one26 rfl (by repeat (first | exact find_head | apply find_tail | apply find_skip)) (by first | exact mdc_ep _ | exact mdc_a _ | exact mdc_n _ | exact mdc_i _ | exact mdc_ph _ | exact mdc_fid _ | exact mdc_vd _ | exact mdc_up _ | exact mdc_q _ | exact mdc_rf _ | exact mdc_tk _ | exact mdc_au _ | exact mdc_fl _ | exact mdc_fu _ | exact mdc_kp _ | exact duc_ep _ | exact duc_a _ | exact duc_n _ | exact duc_i _ | exact duc_ph _ | exact duc_fid _ | exact duc_vd _ | rfl | rfl) ?_)
  clear hl a; intro a hl
  refine wl (w_call hl hh rfl trivial rfl cal100 rfl (mboot_spec Y mb m l hm hep) (by repeat (first | exact keeps_nil | apply keeps_cons (by repeat (first | exact find_head | apply find_tail | apply find_skip)) (by first  | rfl) | exact keeps_self | exact keeps_left | apply keeps_app | apply keeps_mv | apply keeps_skip)) trivial ?_)
  clear hl hh a w; intro vc Fc a w hR hl hh
  rcases hR with ⟨hb1, p6, c6, E6, F2, hR6, hz6, rfl, ⟨m', G9, hm', rfl⟩, rfl⟩ | ⟨hb1, rfl, m', hm', rfl⟩
  ·
    try simp only [List.cons_append, List.nil_append, List.append_nil] at hh
    simp only [MF, List.append_assoc, List.cons_append, List.nil_append] at hh
    have hse2 : (openG (opS l.d)).out = sent := by rw [hse]; unfold sentB; rw [hb1]
    rw [hse2] at hl hR6 hz6
    have hupo : (m'.up == ok) = true := by rw [hok, hb1, hm'.up]; rfl
    have hmk := hm'.dok
    have hml : m'.d.pl = W.l.pl.d := hm'.d.trans hd.symm
    have hfx : MdX (Y ++ G9) m' ⟨upB (bootP l), (bootP l).2⟩ := by unfold upB; rw [hb1]; exact hm'.clr
    refine wl (wl_val hl rfl trivial (r_assign hl rfl) ?_)
    clear hl a; intro a hl
    refine w_nil ?_
    have hl2 := hl.add (t := 0) (hl.add (t := 2) (hl.add (t := 3) (hl.add (t := 9) (hl.nil) rfl) rfl) rfl) rfl; clear hl; have hl := hl2; clear hl2
    refine then_normal ?_
    refine c_seq ?_
    refine c_region ?_
    refine wl (wl_val hl rfl trivial (r_move hl rfl) ?_)
    clear hl a; intro a hl
    refine wl (wl_val hl rfl trivial (r_nilCheck hl rfl) ?_)
    clear hl a; intro a hl
    refine wl (wl_val hl rfl trivial (r_field hl rfl fld32_1) ?_)
    clear hl a; intro a hl
    refine wl (w_load hl hh rfl trivial one26 rfl (by repeat (first | exact find_head | apply find_tail | apply find_skip)) (by first | exact mdc_ep _ | exact mdc_a _ | exact mdc_n _ | exact mdc_i _ | exact mdc_ph _ | exact mdc_fid _ | exact mdc_vd _ | exact mdc_up _ | exact mdc_q _ | exact mdc_rf _ | exact mdc_tk _ | exact mdc_au _ | exact mdc_fl _ | exact mdc_fu _ | exact mdc_kp _ | exact duc_ep _ | exact duc_a _ | exact duc_n _ | exact duc_i _ | exact duc_ph _ | exact duc_fid _ | exact duc_vd _ | rfl | rfl) ?_)
    clear hl a; intro a hl
    refine wl (wl_val hl rfl trivial (r_nilCheck hl rfl) ?_)
    clear hl a; intro a hl
    refine wl (wl_val hl rfl trivial (r_field hl rfl fld82_1) ?_)
    clear hl a; intro a hl
    refine wl (w_load hl hh rfl trivial one4 rfl (by repeat (first | exact find_head | apply find_tail | apply find_skip)) (by first | exact mdc_ep _ | exact mdc_a _ | exact mdc_n _ | exact mdc_i _ | exact mdc_ph _ | exact mdc_fid _ | exact mdc_vd _ | exact mdc_up _ | exact mdc_q _ | exact mdc_rf _ | exact mdc_tk _ | exact mdc_au _ | exact mdc_fl _ | exact mdc_fu _ | exact mdc_kp _ | exact duc_ep _ | exact duc_a _ | exact duc_n _ | exact duc_i _ | exact duc_ph _ | exact duc_fid _ | exact duc_vd _ | rfl | rfl) ?_)
    clear hl a; intro a hl
    refine wl (wl_val hl rfl trivial (r_move hl rfl) ?_)
    clear hl a; intro a hl
    refine wl (wl_val hl rfl trivial (r_eql_bool hl rfl rfl Tryz.underlying4) ?_)
    clear hl a; intro a hl
    rw [hupo] at hl
    refine wl (wl_val hl rfl trivial (r_move hl rfl) ?_)
    clear hl a; intro a hl
    refine wl (wl_val hl rfl ⟨_, _, rfl, rfl, rfl⟩ (r_move hl rfl) ?_)
    clear hl a; intro a hl
    refine wl (wl_val hl rfl ⟨_, _, rfl, rfl, rfl⟩ (r_move hl rfl) ?_)
    clear hl a; intro a hl
    refine wl (w_call hl hh rfl ⟨_, _, rfl, rfl, rfl⟩ rfl cal101 rfl (smsg_spec sent hso hz6 (by omega) q p6 cq c6 Es E6 hR hR6) (by repeat (first | exact keeps_nil | apply keeps_cons (by repeat (first | exact find_head | apply find_tail | apply find_skip)) (by first  | rfl) | exact keeps_self | exact keeps_left | apply keeps_app | apply keeps_mv | apply keeps_skip)) trivial ?_)
    clear hl hh a w; intro vc Fc a w hR hl hh
    obtain ⟨rfl, rfl⟩ := hR
    try simp only [List.cons_append, List.nil_append, List.append_assoc, List.append_nil] at hh
    refine wl (wl_val hl rfl trivial (r_pickT hl rfl rfl) ?_)
    clear hl a; intro a hl
    refine wl (wl_val hl rfl trivial (r_move hl rfl) ?_)
    clear hl a; intro a hl
    refine wl (wl_val hl rfl ⟨_, _, rfl, rfl, rfl⟩ (r_move hl rfl) ?_)
    clear hl a; intro a hl
    refine wl (w_call hl hh rfl ⟨_, _, rfl, rfl, rfl⟩ rfl cal102 rfl (agreeW lb wb mb W Z (Y ++ G9) hW m' hmk hml) (by repeat (first | exact keeps_nil | apply keeps_cons (by repeat (first | exact find_head | apply find_tail | apply find_skip)) (by first  | rfl) | exact keeps_self | exact keeps_left | apply keeps_app | apply keeps_mv | apply keeps_skip)) trivial ?_)
    clear hl hh a w; intro vc Fc a w hR hl hh
    obtain ⟨rfl, rfl⟩ := hR
    try simp only [List.cons_append, List.nil_append, List.append_assoc, List.append_nil] at hh
    refine wl (wl_val hl rfl trivial (r_pickT hl rfl rfl) ?_)
    clear hl a; intro a hl
    refine wl (wl_val hl rfl trivial (r_assign hl rfl) ?_)
    clear hl a; intro a hl
    refine w_nil ?_
    have hl2 := hl.add (t := 8) (hl.nil) rfl; clear hl; have hl := hl2; clear hl2
    refine then_normal ?_
    refine wp_ret ?_
    refine f_ret1 (F' := (lb, C [.pointer (some ⟨wb, 0, none⟩), .pointer (some ⟨mb, 0, none⟩)] 32) :: (((mb, C (MdV.c m') 82) :: (m'.d.E ++ (m'.qE ++ (m'.rE ++ (Y ++ G9))))) ++ (((wb, C W.c 55) :: (W.tE ++ (W.gE ++ (DsF W.ds ++ W.GF Z)))) ++ Es))) hl hh rfl rfl (by repeat (first | exact keeps_nil | apply keeps_cons (by repeat (first | exact find_head | apply find_tail | apply find_skip)) (by first  | rfl) | exact keeps_self | exact keeps_left | apply keeps_app | apply keeps_mv | apply keeps_skip)) ?_
    exact ⟨rfl, m', G9, hfx, by simp only [MF, WoV.F, List.append_assoc, List.cons_append]⟩
  ·
    try simp only [List.cons_append, List.nil_append, List.append_nil] at hh
    simp only [MF, List.append_assoc, List.cons_append, List.nil_append] at hh
    have hse2 : sent = [] := by rw [hse]; unfold sentB; rw [hb1]
    have hupo : (m'.up == ok) = true := by rw [hok, hb1, hm'.up]; rfl
    obtain ⟨G9, hG9⟩ : ∃ G9 : List (Nat × Obj), G9 = [] := ⟨_, rfl⟩
    have hmk : m'.d.ok (Y ++ G9) := hm'.dok.app
    have hml : m'.d.pl = W.l.pl.d := hm'.d.trans hd.symm
    have hfx : MdX (Y ++ G9) m' ⟨upB (bootP l), (bootP l).2⟩ := by unfold upB; rw [hb1, hG9, List.append_nil]; exact hm'
    obtain ⟨p6, c6, E6, hp6, hc6, hE6⟩ : ∃ (p6 : Option Addr) (c6 : Nat) (E6 : List (Nat × Obj)), p6 = none ∧ c6 = 0 ∧ E6 = [] := ⟨_, _, _, rfl, rfl, rfl⟩
    have hR6 : ROWB p6 sent c6 E6 := by rw [hp6, hc6, hE6, hse2]; exact ROWB.nil
    have hz6 : ∀ x, x ∈ sent → x.t.size ≤ 1000 := by rw [hse2]; intro x hx; cases hx
    rw [show Value.slice none 0 0 = .slice p6 sent.length c6 by rw [hp6, hc6, hse2]; rfl] at hl
    replace hh := hh.perm (show List.Perm _ (E6 ++ (G9 ++ _)) by rw [hE6, hG9]; exact List.Perm.refl _)
    refine wl (wl_val hl rfl trivial (r_assign hl rfl) ?_)
    clear hl a; intro a hl
    refine w_nil ?_
    have hl2 := hl.add (t := 0) (hl.add (t := 2) (hl.add (t := 3) (hl.add (t := 9) (hl.nil) rfl) rfl) rfl) rfl; clear hl; have hl := hl2; clear hl2
    refine then_normal ?_
    refine c_seq ?_
    refine c_region ?_
    refine wl (wl_val hl rfl trivial (r_move hl rfl) ?_)
    clear hl a; intro a hl
    refine wl (wl_val hl rfl trivial (r_nilCheck hl rfl) ?_)
    clear hl a; intro a hl
    refine wl (wl_val hl rfl trivial (r_field hl rfl fld32_1) ?_)
    clear hl a; intro a hl
    refine wl (w_load hl hh rfl trivial one26 rfl (by repeat (first | exact find_head | apply find_tail | apply find_skip)) (by first | exact mdc_ep _ | exact mdc_a _ | exact mdc_n _ | exact mdc_i _ | exact mdc_ph _ | exact mdc_fid _ | exact mdc_vd _ | exact mdc_up _ | exact mdc_q _ | exact mdc_rf _ | exact mdc_tk _ | exact mdc_au _ | exact mdc_fl _ | exact mdc_fu _ | exact mdc_kp _ | exact duc_ep _ | exact duc_a _ | exact duc_n _ | exact duc_i _ | exact duc_ph _ | exact duc_fid _ | exact duc_vd _ | rfl | rfl) ?_)
    clear hl a; intro a hl
    refine wl (wl_val hl rfl trivial (r_nilCheck hl rfl) ?_)
    clear hl a; intro a hl
    refine wl (wl_val hl rfl trivial (r_field hl rfl fld82_1) ?_)
    clear hl a; intro a hl
    refine wl (w_load hl hh rfl trivial one4 rfl (by repeat (first | exact find_head | apply find_tail | apply find_skip)) (by first | exact mdc_ep _ | exact mdc_a _ | exact mdc_n _ | exact mdc_i _ | exact mdc_ph _ | exact mdc_fid _ | exact mdc_vd _ | exact mdc_up _ | exact mdc_q _ | exact mdc_rf _ | exact mdc_tk _ | exact mdc_au _ | exact mdc_fl _ | exact mdc_fu _ | exact mdc_kp _ | exact duc_ep _ | exact duc_a _ | exact duc_n _ | exact duc_i _ | exact duc_ph _ | exact duc_fid _ | exact duc_vd _ | rfl | rfl) ?_)
    clear hl a; intro a hl
    refine wl (wl_val hl rfl trivial (r_move hl rfl) ?_)
    clear hl a; intro a hl
    refine wl (wl_val hl rfl trivial (r_eql_bool hl rfl rfl Tryz.underlying4) ?_)
    clear hl a; intro a hl
    rw [hupo] at hl
    refine wl (wl_val hl rfl trivial (r_move hl rfl) ?_)
    clear hl a; intro a hl
    refine wl (wl_val hl rfl ⟨_, _, rfl, rfl, rfl⟩ (r_move hl rfl) ?_)
    clear hl a; intro a hl
    refine wl (wl_val hl rfl ⟨_, _, rfl, rfl, rfl⟩ (r_move hl rfl) ?_)
    clear hl a; intro a hl
    refine wl (w_call hl hh rfl ⟨_, _, rfl, rfl, rfl⟩ rfl cal101 rfl (smsg_spec sent hso hz6 (by omega) q p6 cq c6 Es E6 hR hR6) (by repeat (first | exact keeps_nil | apply keeps_cons (by repeat (first | exact find_head | apply find_tail | apply find_skip)) (by first  | rfl) | exact keeps_self | exact keeps_left | apply keeps_app | apply keeps_mv | apply keeps_skip)) trivial ?_)
    clear hl hh a w; intro vc Fc a w hR hl hh
    obtain ⟨rfl, rfl⟩ := hR
    try simp only [List.cons_append, List.nil_append, List.append_assoc, List.append_nil] at hh
    refine wl (wl_val hl rfl trivial (r_pickT hl rfl rfl) ?_)
    clear hl a; intro a hl
    refine wl (wl_val hl rfl trivial (r_move hl rfl) ?_)
    clear hl a; intro a hl
    refine wl (wl_val hl rfl ⟨_, _, rfl, rfl, rfl⟩ (r_move hl rfl) ?_)
    clear hl a; intro a hl
    refine wl (w_call hl hh rfl ⟨_, _, rfl, rfl, rfl⟩ rfl cal102 rfl (agreeW lb wb mb W Z (Y ++ G9) hW m' hmk hml) (by repeat (first | exact keeps_nil | apply keeps_cons (by repeat (first | exact find_head | apply find_tail | apply find_skip)) (by first  | rfl) | exact keeps_self | exact keeps_left | apply keeps_app | apply keeps_mv | apply keeps_skip)) trivial ?_)
    clear hl hh a w; intro vc Fc a w hR hl hh
    obtain ⟨rfl, rfl⟩ := hR
    try simp only [List.cons_append, List.nil_append, List.append_assoc, List.append_nil] at hh
    refine wl (wl_val hl rfl trivial (r_pickT hl rfl rfl) ?_)
    clear hl a; intro a hl
    refine wl (wl_val hl rfl trivial (r_assign hl rfl) ?_)
    clear hl a; intro a hl
    refine w_nil ?_
    have hl2 := hl.add (t := 8) (hl.nil) rfl; clear hl; have hl := hl2; clear hl2
    refine then_normal ?_
    refine wp_ret ?_
    refine f_ret1 (F' := (lb, C [.pointer (some ⟨wb, 0, none⟩), .pointer (some ⟨mb, 0, none⟩)] 32) :: (((mb, C (MdV.c m') 82) :: (m'.d.E ++ (m'.qE ++ (m'.rE ++ (Y ++ G9))))) ++ (((wb, C W.c 55) :: (W.tE ++ (W.gE ++ (DsF W.ds ++ W.GF Z)))) ++ Es))) hl hh rfl rfl (by repeat (first | exact keeps_nil | apply keeps_cons (by repeat (first | exact find_head | apply find_tail | apply find_skip)) (by first  | rfl) | exact keeps_self | exact keeps_left | apply keeps_app | apply keeps_mv | apply keeps_skip)) ?_
    exact ⟨rfl, m', G9, hfx, by simp only [MF, WoV.F, List.append_assoc, List.cons_append]⟩
end Go.Proofs.Qxb6500908aGreat

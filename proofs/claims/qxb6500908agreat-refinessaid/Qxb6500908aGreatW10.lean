import Derived.Test.Qxb6500908aGreatW9
namespace Go.Proofs.Qxb6500908aGreat
open Go.Eng
set_option linter.unusedVariables false
set_option linter.unusedSimpArgs false
theorem slc85 : slcOk Tryz.prog 85 65 = true := by kernel_rfl
theorem fld84_1 : fieldOk Tryz.prog 84 1 1 = true := by kernel_rfl
theorem vr_net {l : List Vr} {i : Nat} {x : Vr} (h : l[i]? = some x) (j : List Value) : ((fl vrc l ++ j).drop (0 + i * 65 + 1)).take 64 = x.n.k := by
  have h1 := fl_at vrc_len h j
  have h2 : (((fl vrc l ++ j).drop (0 + i * 65)).take 65).drop 1 = x.n.k := by rw [h1]; rfl
  rw [List.drop_take, List.drop_drop] at h2
  exact h2
theorem vr_id {l : List Vr} {i : Nat} {x : Vr} (h : l[i]? = some x) (j : List Value) : (fl vrc l ++ j)[0 + i * 65 + 0]? = some (.int .u32 x.id) := by
  have h1 := fl_at vrc_len h j
  have h2 : (((fl vrc l ++ j).drop (0 + i * 65)).take 65)[0]? = some (.int .u32 x.id) := by rw [h1]; rfl
  rw [List.getElem?_take, if_pos (by omega), List.getElem?_drop] at h2
  exact h2
theorem inE_v {s : StV} {x : Nat × Obj} (h : x ∈ s.vE) : x ∈ s.E := List.mem_append_left _ h
theorem inE_i {s : StV} {x : Nat × Obj} (h : x ∈ s.iE) : x ∈ s.E := List.mem_append_right _ (List.mem_append_left _ h)
def lastV (g : GtP) : NtP := (g.st.vs.getLast?.map Prod.snd).getD np0

attribute [local irreducible] NtV.k StV.c LdV.c StV.E GtV.c GtV.t orB

set_option maxHeartbeats 4000000 in
theorem current_spec (Z : List (Nat × Obj)) (gb : Nat) (g : GtV) (hg : g.ok Z) : Sp Tryz.prog 67 #[.pointer (some ⟨gb, 0, none⟩)] ((gb, C g.c 127) :: g.st.E) (fun v F' => (∃ n : NtV, n.ok Z ∧ n.pl = lastV g.pl ∧ v = .agg ⟨n.c⟩) ∧ F' = (gb, C g.c 127) :: g.st.E) := by
  refine f_enter (args := [.pointer (some ⟨gb, 0, none⟩)]) Tryz.func67 rfl Tryz.ntmps67 rfl ?_
  intro w0 w a hpre hl hh
  generalize hDD : List.map Prod.fst ((gb, C g.c 127) :: g.st.E) = D at hh ⊢
  have hv1 := hg.st.v1; have hvl := hg.st.vl
  obtain ⟨x, hx⟩ : ∃ x, g.st.vs[g.st.vs.length - 1]? = some x := ⟨_, List.getElem?_eq_getElem (by omega)⟩
  have hxo := hg.st.vo x (List.mem_of_getElem? hx)
  obtain ⟨b1, j1, hq1, hjl1, hjc1, hE1⟩ := row_pos hg.st.v (by omega)
  have hmem1 : (b1, C (fl vrc g.st.vs ++ j1) 84) ∈ g.st.E := inE_v (by rw [hE1]; exact List.mem_singleton.2 rfl)
  have hd1 := vr_net hx j1
  have hd2 := vr_id hx j1
  simp only [slotsFrom, Nat.reduceAdd] at hl
  refine c_seq ?_
  refine c_region ?_
  refine wl (w_alloc hl hh rfl trivial zero66 rfl ?_)
  clear hl hh a w; intro k2 a w hl hh
  refine w_nil ?_
  have hl2 := hl.add (t := 0) (hl.add (t := 2) (hl.nil) rfl) rfl; clear hl; have hl := hl2; clear hl2
  refine then_normal ?_
  refine c_seq ?_
  refine c_draw [(gb, C g.c 127)] [15] mixed hh ?_
  clear hh w; intro w hh
  have hM : Mem [(gb, C g.c 127)] w := (memK hh (by repeat (first | exact keeps_nil | apply keeps_cons (by repeat (first | exact find_head | apply find_tail | apply find_skip)) (by first  | rfl) | exact keeps_self | exact keeps_left | apply keeps_app | apply keeps_mv | apply keeps_skip)))
  refine d_take (i := 0) hl rfl (by kernel_rfl) (by kernel_rfl) (by kernel_rfl) (by kernel_rfl) (by kernel_rfl) rfl trivial (fun _ _ _ h => h) hM (fun w hC => r_move hl rfl) rfl ?_
  clear hl a; intro a hl
  refine d_take (i := 1) hl rfl (by kernel_rfl) (by kernel_rfl) (by kernel_rfl) (by kernel_rfl) (by kernel_rfl) rfl trivial (fun _ _ _ h => h) hM (fun w hC => r_nilCheck hl rfl) rfl ?_
  clear hl a; intro a hl
  refine d_take (i := 2) hl rfl (by kernel_rfl) (by kernel_rfl) (by kernel_rfl) (by kernel_rfl) (by kernel_rfl) rfl trivial (fun _ _ _ h => h) hM (fun w hC => r_field hl rfl fld127_1) rfl ?_
  clear hl a; intro a hl
  refine d_take (i := 3) hl rfl (by kernel_rfl) (by kernel_rfl) (by kernel_rfl) (by kernel_rfl) (by kernel_rfl) rfl trivial (fun _ _ _ h => h) hM (fun w hC => r_field hl rfl fld89_1) rfl ?_
  clear hl a; intro a hl
  refine d_take (i := 4) hl rfl (by kernel_rfl) (by kernel_rfl) (by kernel_rfl) (by kernel_rfl) (by kernel_rfl) rfl trivial (fun _ _ _ h => h) hM (fun w hC => r_loadC hl rfl one85 hC (by repeat (first | exact find_head | apply find_tail | apply find_skip)) (by first | exact gtc_led _ | exact gtc_ep _ | exact gtc_vs _ | exact gtc_is _ | exact gtc_fid _ | exact gtc_ph _ | exact gtc_vd _ | exact gtc_q _ | exact gtc_rf _ | exact gtc_ys _ | exact gtc_dn _ | exact gtc_tk _ | exact gtc_au _ | exact gtc_o _ | exact gtc_off _ | rfl)) rfl ?_
  clear hl a; intro a hl
  rw [hq1] at hl
  refine d_take (i := 5) hl rfl (by kernel_rfl) (by kernel_rfl) (by kernel_rfl) (by kernel_rfl) (by kernel_rfl) rfl trivial (fun _ _ _ h => h) hM (fun w hC => r_move hl rfl) rfl ?_
  clear hl a; intro a hl
  refine d_take (i := 6) hl rfl (by kernel_rfl) (by kernel_rfl) (by kernel_rfl) (by kernel_rfl) (by kernel_rfl) rfl trivial (fun _ _ _ h => h) hM (fun w hC => r_nilCheck hl rfl) rfl ?_
  clear hl a; intro a hl
  refine d_take (i := 7) hl rfl (by kernel_rfl) (by kernel_rfl) (by kernel_rfl) (by kernel_rfl) (by kernel_rfl) rfl trivial (fun _ _ _ h => h) hM (fun w hC => r_field hl rfl fld127_1) rfl ?_
  clear hl a; intro a hl
  refine d_take (i := 8) hl rfl (by kernel_rfl) (by kernel_rfl) (by kernel_rfl) (by kernel_rfl) (by kernel_rfl) rfl trivial (fun _ _ _ h => h) hM (fun w hC => r_field hl rfl fld89_1) rfl ?_
  clear hl a; intro a hl
  refine d_take (i := 9) hl rfl (by kernel_rfl) (by kernel_rfl) (by kernel_rfl) (by kernel_rfl) (by kernel_rfl) rfl trivial (fun _ _ _ h => h) hM (fun w hC => r_loadC hl rfl one85 hC (by repeat (first | exact find_head | apply find_tail | apply find_skip)) (by first | exact gtc_led _ | exact gtc_ep _ | exact gtc_vs _ | exact gtc_is _ | exact gtc_fid _ | exact gtc_ph _ | exact gtc_vd _ | exact gtc_q _ | exact gtc_rf _ | exact gtc_ys _ | exact gtc_dn _ | exact gtc_tk _ | exact gtc_au _ | exact gtc_o _ | exact gtc_off _ | rfl)) rfl ?_
  clear hl a; intro a hl
  rw [hq1] at hl
  refine d_take (i := 10) hl rfl (by kernel_rfl) (by kernel_rfl) (by kernel_rfl) (by kernel_rfl) (by kernel_rfl) rfl trivial (fun _ _ _ h => h) hM (fun w hC => r_lenS hl rfl slc85) rfl ?_
  clear hl a; intro a hl
  first | refine d_take (i := 11) hl rfl (by kernel_rfl) (by kernel_rfl) (by kernel_rfl) (by kernel_rfl) (by kernel_rfl) rfl trivial (fun _ _ _ h => h) hM (fun w hC => r_sub hl rfl rfl (by simp only [Fits]; omega)) rfl ?_ | refine d_take (i := 11) hl rfl (by kernel_rfl) (by kernel_rfl) (by kernel_rfl) (by kernel_rfl) (by kernel_rfl) rfl trivial (fun _ _ _ h => h) hM (fun w hC => r_subW hl rfl rfl) rfl ?_
  clear hl a; intro a hl
  rw [show (g.st.vs.length : Int) - 1 = ((g.st.vs.length - 1 : Nat) : Int) by omega] at hl
  refine d_take (i := 12) hl rfl (by kernel_rfl) (by kernel_rfl) (by kernel_rfl) (by kernel_rfl) (by kernel_rfl) rfl trivial (fun _ _ _ h => h) hM (fun w hC => r_indexS hl rfl rfl slc85 (by omega) (by omega) (by first | (simp only [Int.reduceToNat]; rfl) | exact toNat_add1 _ | exact toNat_add2 _ _ | exact toNat_emod _ _ | exact Int.toNat_natCast _ | rfl)) rfl ?_
  clear hl a; intro a hl
  refine d_take (i := 13) hl rfl (by kernel_rfl) (by kernel_rfl) (by kernel_rfl) (by kernel_rfl) (by kernel_rfl) rfl trivial (fun _ _ _ h => h) hM (fun w hC => r_field hl rfl fld84_1) rfl ?_
  clear hl a; intro a hl
  refine d_one (i := 14) (by kernel_rfl) rfl ?_
  try clear hM
  first | refine id (w_loadA hl hh rfl trivial agg66 rfl (by repeat (first | exact find_head | apply find_tail | apply find_skip)) (by exact hd1) (by exact ntk_len _) ?_) | refine id (wl_val hl rfl trivial (r_loadA hl rfl agg66 (hh.mem _ _ (by repeat (first | exact hmem1 | exact List.mem_append_left _ hmem1 | apply List.mem_cons_of_mem | apply List.mem_append_right))) hd1 (ntk_len _)) ?_)
  clear hl a; intro a hl
  have hM : Mem [(gb, C g.c 127)] w := (memK hh (by repeat (first | exact keeps_nil | apply keeps_cons (by repeat (first | exact find_head | apply find_tail | apply find_skip)) (by first  | rfl) | exact keeps_self | exact keeps_left | apply keeps_app | apply keeps_mv | apply keeps_skip)))
  refine d_step (fun _ => hM) ?_
  refine d_one (i := 15) (by kernel_rfl) rfl ?_
  try clear hM
  refine id (w_storeA hl hh trivial agg66 rfl rfl (by repeat (first | exact find_head | apply find_tail | apply find_skip)) (by exact ntk_len _) (by exact Nat.le_refl 64) (by exact ntk_one _) (by exact setL_all (show 64 = _ from (ntk_len _).symm)) ?_)
  clear hh w; intro w hh
  refine d_step (fun h => absurd h (by decide)) ?_
  refine d_done (by kernel_rfl) ?_
  try clear hM
  have hl2 := hl.add (t := 2) (hl.nil) rfl; clear hl; have hl := hl2; clear hl2
  refine then_normal ?_
  refine wp_ret ?_
  refine f_retC (F' := (gb, C g.c 127) :: g.st.E) hl hh rfl rfl agg66 (by repeat (first | exact find_head | apply find_tail | apply find_skip)) (by first | rfl | exact arrL_length _ _ | exact ntk_len _ | (simp; done)) (by repeat (first | exact keeps_nil | apply keeps_cons (by repeat (first | exact find_head | apply find_tail | apply find_skip)) (by first  | rfl) | exact keeps_self | exact keeps_left | apply keeps_app | apply keeps_mv | apply keeps_skip)) ?_
  refine ⟨⟨x.n, hxo.1, ?_, by rw [ntk_eq hxo.1]⟩, rfl⟩
  unfold lastV
  rw [show g.pl.st.vs = g.st.vs.map vrP from rfl, List.getLast?_eq_getElem?, List.length_map, List.getElem?_map, hx]; rfl
end Go.Proofs.Qxb6500908aGreat

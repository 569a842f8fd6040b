import Derived.Test.Qxb6500911aGreatDoorA23
namespace Go.Proofs.Qxb6500911aGreatDoor
open Go.Eng
set_option linter.unusedVariables false
set_option linter.unusedSimpArgs false
theorem cal39 : callable Tryz.prog 39 = true := by kernel_rfl
/-! ## edges and nets -/
theorem edH_of {w : Nat} {x : Wt} {h : Nat} (hn : x.net h ≠ 0) : ∀ {n}, h < n → (⟨w, h, x.e, x.net h⟩ : Eg) ∈ edH w x n
  | 0, hh => absurd hh (by omega)
  | n + 1, hh => by
    rw [edH]
    by_cases c : h = n
    · subst c; rw [if_neg hn]; exact List.mem_append_right _ (List.mem_singleton.2 rfl)
    · exact List.mem_append_left _ (edH_of hn (by omega))
theorem edL_of {w : Nat} {x : Wt} {h : Nat} (hn : x.net h ≠ 0) (hh : h < 16) : ∀ {l : List Wt}, x ∈ l → (⟨w, h, x.e, x.net h⟩ : Eg) ∈ edL w l
  | y :: l, hx => by
    rw [edL]
    rcases List.mem_cons.1 hx with rfl | hx
    · exact List.mem_append_left _ (edH_of hn hh)
    · exact List.mem_append_right _ (edL_of hn hh hx)
theorem edN_of {ws : Nat → List Wt} {w h : Nat} {x : Wt} (hn : x.net h ≠ 0) (hh : h < 16) (hx : x ∈ ws w) : ∀ {n}, w < n → (⟨w, h, x.e, x.net h⟩ : Eg) ∈ edN ws n
  | 0, hw => absurd hw (by omega)
  | n + 1, hw => by
    rw [edN]
    by_cases c : w = n
    · subst c; exact List.mem_append_right _ (edL_of hn hh hx)
    · exact List.mem_append_left _ (edN_of hn hh hx (by omega))
/-- the set that the law gathers from the edges -/
def prS (t : Nat) (e : Int) (m : BitVec 16) (y : Eg) : BitVec 16 := if y.w = t ∧ y.e = e ∧ 0 < y.n then m ||| bitB y.h else m
def prF (t : Nat) (e : Int) (l : List Eg) : BitVec 16 := l.foldl (prS t e) 0#16
theorem prF_get' {t : Nat} {e : Int} {k : Nat} (hk : k < 16) : ∀ (l : List Eg) (m : BitVec 16), (l.foldl (prS t e) m).getLsbD k = true ↔ (m.getLsbD k = true ∨ ∃ y, y ∈ l ∧ y.w = t ∧ y.e = e ∧ 0 < y.n ∧ y.h = k)
  | [], m => ⟨fun h => .inl h, fun h => by rcases h with h | ⟨y, hy, _⟩; exact h; cases hy⟩
  | x :: l, m => by
    rw [List.foldl_cons, prF_get' hk l]
    constructor
    · rintro (h | ⟨y, hy, h⟩)
      · unfold prS at h
        split at h
        · rename_i c
          rw [BitVec.getLsbD_or, bit_get hk, Bool.or_eq_true, decide_eq_true_eq] at h
          rcases h with h | h
          · exact .inl h
          · exact .inr ⟨x, .head _, c.1, c.2.1, c.2.2, h⟩
        · exact .inl h
      · exact .inr ⟨y, .tail _ hy, h⟩
    · rintro (h | ⟨y, hy, h1, h2, h3, h4⟩)
      · left
        unfold prS
        split
        · rw [BitVec.getLsbD_or, h]; rfl
        · exact h
      · rcases List.mem_cons.1 hy with rfl | hy
        · left
          unfold prS
          rw [if_pos ⟨h1, h2, h3⟩, BitVec.getLsbD_or, bit_get hk, decide_eq_true h4, Bool.or_true]
        · exact .inr ⟨y, hy, h1, h2, h3, h4⟩
theorem prF_eq {g : Gs} {t : Nat} (ht : t < 16) {fz e : Int} (hok : WsOk (g.ws t) fz) : prF t e (edN (wsK g.ws (t % 4)) 16) = maskN (nt (g.ws t) e) 16 := by
  apply BitVec.eq_of_getLsbD_eq
  intro k hk
  rw [maskN_get (Nat.le_refl _)]
  have h1 := prF_get' (t := t) (e := e) hk (edN (wsK g.ws (t % 4)) 16) 0#16
  have hws : wsK g.ws (t % 4) t = g.ws t := by unfold wsK; rw [if_pos rfl]
  rw [Bool.eq_iff_iff, decide_eq_true_eq]
  unfold prF
  rw [h1]
  constructor
  · rintro (h | ⟨y, hy, h2, h3, h4, h5⟩)
    · simp at h
    · obtain ⟨_, x, hx, e1, e2, e3, _⟩ := edN_mem hy
      rw [h2, hws] at hx
      refine ⟨hk, ?_⟩
      rw [← h3, e2, nt_of_mem hok.srt hx, ← h5, ← e3]; exact h4
  · rintro ⟨_, h⟩
    right
    have hne : nt (g.ws t) e k ≠ 0 := by omega
    have : ∃ x, x ∈ g.ws t ∧ x.e = e := by
      apply Classical.byContradiction
      intro hn
      exact hne (nt_none fun x hx he => hn ⟨x, hx, he⟩)
    obtain ⟨x, hx, rfl⟩ := this
    rw [nt_of_mem hok.srt hx] at h hne
    exact ⟨⟨t, k, x.e, x.net k⟩, edN_of hne hk (by rw [hws]; exact hx) ht, rfl, rfl, h, rfl⟩
theorem prF_snoc {t : Nat} {e : Int} {l : List Eg} {i : Nat} {y : Eg} (hy : l[i]? = some y) : prF t e (l.take (i + 1)) = prS t e (prF t e (l.take i)) y := by
  unfold prF; rw [List.take_add_one, hy, List.foldl_append]; rfl
theorem pr_T {t : Nat} {e : Int} {l : List Eg} {i : Nat} {y : Eg} (hy : l[i]? = some y) (h1 : (y.w : Int) = t) (h2 : y.e = e) (h3 : 0 < y.n) : Value.int .u16 (mi (prF t e (l.take i) ||| bitB y.h)) = .int .u16 (mi (prF t e (l.take (i + 1)))) := by
  rw [prF_snoc hy]; unfold prS; rw [if_pos ⟨by omega, h2, h3⟩]
theorem pr_F1 {t : Nat} {e : Int} {l : List Eg} {i : Nat} {y : Eg} (hy : l[i]? = some y) (h1 : ¬ (y.w : Int) = t) : Value.int .u16 (mi (prF t e (l.take i))) = .int .u16 (mi (prF t e (l.take (i + 1)))) := by
  rw [prF_snoc hy]; unfold prS; rw [if_neg (fun h => by omega)]
theorem pr_F2 {t : Nat} {e : Int} {l : List Eg} {i : Nat} {y : Eg} (hy : l[i]? = some y) (h2 : ¬ y.e = e) : Value.int .u16 (mi (prF t e (l.take i))) = .int .u16 (mi (prF t e (l.take (i + 1)))) := by
  rw [prF_snoc hy]; unfold prS; rw [if_neg (fun h => h2 h.2.1)]
theorem pr_F3 {t : Nat} {e : Int} {l : List Eg} {i : Nat} {y : Eg} (hy : l[i]? = some y) (h3 : y.n ≤ 0) : Value.int .u16 (mi (prF t e (l.take i))) = .int .u16 (mi (prF t e (l.take (i + 1)))) := by
  rw [prF_snoc hy]; unfold prS; rw [if_neg (fun h => by omega)]
/-- a task that does not wait is followed nowhere -/
theorem mi_nowait {g : Gs} {t : Nat} (hM : MIall g) (ht : t < 16) (hw : waitOn g.tb t 20 = none) : maskN (nt (g.ws t) (g.ep t)) 16 = 0#16 := by
  have h := hM t ht
  have e1 : wtg g.tb t = false := by unfold wtg; rw [hw]; rfl
  have hz : ∀ k, nt (g.ws t) (g.ep t) k = 0 := fun k => nt_none fun x hx he => by
    rcases h.s0 x hx with h1 | h1
    · omega
    · rw [e1] at h1; cases h1.2
  rw [maskN_congr (g := fun _ => 0) 16 (fun k _ => hz k), maskN_zero]


set_option maxHeartbeats 2000000 in
theorem succs_spec {g : Gs} {M : Mm} (hS : SysF g M) (bg : Nat) (B Q : Int) (hq : BQ B Q) (hG : GI B Q g) (t : Nat) (ht : t < 16) : SpK Tryz.prog 13 #[.pointer (some ⟨bg, 0, none⟩), .int .i64 (t : Int)] (Mem (sysL bg M)) [] (fun v F' => v = .tuple #[.int .u64 (g.ep t), .int .u16 (mi (maskN (nt (g.ws t) (g.ep t)) 16))] ∧ F' = []) := by
  refine f_enter (args := [.pointer (some ⟨bg, 0, none⟩), .int .i64 (t : Int)]) Tryz.func13 rfl Tryz.ntmps13 rfl ?_
  intro w0 w a hpre hl hh
  have hmG := hpre _ _ (List.mem_append_left _ (List.mem_cons_self ..))
  have hmF := (mem_app hpre).1
  simp only [slotsFrom, Nat.reduceAdd] at hl
  refine c_seq ?_
  refine c_region ?_
  refine wl (wl_val hl rfl trivial (r_assign hl rfl) ?_)
  clear hl a; intro a hl
  refine wl (wl_val hl rfl trivial (r_assign hl rfl) ?_)
  clear hl a; intro a hl
  refine w_nil ?_
  have hl2 := hl.add (t := 0) (hl.add (t := 1) (hl.nil) rfl) rfl; clear hl; have hl := hl2; clear hl2
  refine then_normal ?_
  refine c_seq ?_
  refine c_seq ?_
  refine c_region ?_
  refine wl (wl_val hl rfl trivial (r_move hl rfl) ?_)
  clear hl a; intro a hl
  refine wl (w_call hl hh rfl trivial rfl cal38 rfl (validTask_spec _) (by repeat (first | exact keeps_nil | apply keeps_cons (by repeat (first | exact find_head | apply find_tail)) (by first  | rfl) | exact keeps_self | apply keeps_mv)) trivial ?_)
  clear hl hh a w; intro vc Fc a w hR hl hh
  obtain ⟨rfl, rfl⟩ := hR
  try simp only [List.cons_append, List.nil_append] at hh
  refine wl (wl_val hl rfl trivial (r_not hl rfl) ?_)
  clear hl a; intro a hl
  refine w_nil ?_
  have hl2 := hl.add (t := 0) (hl.add (t := 1) (hl.add (t := 8) (hl.nil) rfl) rfl) rfl; clear hl; have hl := hl2; clear hl2
  refine then_normal ?_
  refine c_cond hl rfl ?_ ?_
  · intro hc0
    try simp only [decide_eq_true_eq, decide_eq_false_iff_not, Bool.not_eq_true', Bool.not_eq_false', Bool.not_eq_true, Bool.not_eq_false, Bool.and_eq_true, Bool.or_eq_true, Bool.and_eq_false_iff, Bool.or_eq_false_iff, Bool.not_not, ne_eq, Int.not_lt, Int.not_le, Decidable.not_not, beq_iff_eq, bne_iff_ne] at hc0
    exfalso; first | contradiction | omega
  · intro hc0
    try simp only [decide_eq_true_eq, decide_eq_false_iff_not, Bool.not_eq_true', Bool.not_eq_false', Bool.not_eq_true, Bool.not_eq_false, Bool.and_eq_true, Bool.or_eq_true, Bool.and_eq_false_iff, Bool.or_eq_false_iff, Bool.not_not, ne_eq, Int.not_lt, Int.not_le, Decidable.not_not, beq_iff_eq, bne_iff_ne] at hc0
    refine wp_skip ?_
    refine then_normal ?_
    refine c_seq ?_
    refine c_draw [(bg, C (arrL 146 M.fg) 94)] [20, 21] mixed hh ?_
    clear hh w; intro w hh
    have hM : Mem [(bg, C (arrL 146 M.fg) 94)] w := (by (repeat (first | exact Mem.nil | refine Mem.consR hh (by assumption) (by simp) ?_ | refine Mem.cons hh.mem (by (repeat (first | exact find_head | apply find_tail)); done) ?_ | fail)); done)
    refine d_take (i := 0) hl rfl (by kernel_rfl) (by kernel_rfl) (by kernel_rfl) (by kernel_rfl) (by kernel_rfl) rfl trivial (fun _ _ _ h => h) hM (fun w hC => r_move hl rfl) rfl ?_
    clear hl a; intro a hl
    refine d_take (i := 1) hl rfl (by kernel_rfl) (by kernel_rfl) (by kernel_rfl) (by kernel_rfl) (by kernel_rfl) rfl trivial (fun _ _ _ h => h) hM (fun w hC => r_move hl rfl) rfl ?_
    clear hl a; intro a hl
    refine d_take (i := 2) hl rfl (by kernel_rfl) (by kernel_rfl) (by kernel_rfl) (by kernel_rfl) (by kernel_rfl) rfl trivial (fun _ _ _ h => h) hM (fun w hC => r_nilCheck hl rfl) rfl ?_
    clear hl a; intro a hl
    refine d_take (i := 3) hl rfl (by kernel_rfl) (by kernel_rfl) (by kernel_rfl) (by kernel_rfl) (by kernel_rfl) rfl trivial (fun _ _ _ h => h) hM (fun w hC => r_field hl rfl fld94_2) rfl ?_
    clear hl a; intro a hl
    refine d_take (i := 4) hl rfl (by kernel_rfl) (by kernel_rfl) (by kernel_rfl) (by kernel_rfl) (by kernel_rfl) rfl trivial (fun _ _ _ h => h) hM (fun w hC => r_indexA hl rfl rfl arr43 (by omega) (by omega) (by first | (simp only [Int.reduceToNat]; rfl) | exact toNat_add1 _ | exact toNat_add2 _ _ | exact toNat_emod _ _ | exact Int.toNat_natCast _ | rfl)) rfl ?_
    clear hl a; intro a hl
    refine d_take (i := 5) hl rfl (by kernel_rfl) (by kernel_rfl) (by kernel_rfl) (by kernel_rfl) (by kernel_rfl) rfl trivial (fun _ _ _ h => h) hM (fun w hC => r_loadC hl rfl one42 hC (by repeat (first | exact find_head | apply find_tail)) (by first | exact fg_ep' hS.gr.ep ht | rfl)) rfl ?_
    clear hl a; intro a hl
    refine d_take (i := 6) hl rfl (by kernel_rfl) (by kernel_rfl) (by kernel_rfl) (by kernel_rfl) (by kernel_rfl) rfl trivial (fun _ _ _ h => h) hM (fun w hC => r_move hl rfl) rfl ?_
    clear hl a; intro a hl
    refine d_take (i := 7) hl rfl (by kernel_rfl) (by kernel_rfl) (by kernel_rfl) (by kernel_rfl) (by kernel_rfl) rfl trivial (fun _ _ _ h => h) hM (fun w hC => r_move hl rfl) rfl ?_
    clear hl a; intro a hl
    refine d_take (i := 9) hl rfl (by kernel_rfl) (by kernel_rfl) (by kernel_rfl) (by kernel_rfl) (by kernel_rfl) rfl trivial (fun _ _ _ h => h) hM (fun w hC => r_nilCheck hl rfl) rfl ?_
    clear hl a; intro a hl
    refine d_take (i := 10) hl rfl (by kernel_rfl) (by kernel_rfl) (by kernel_rfl) (by kernel_rfl) (by kernel_rfl) rfl trivial (fun _ _ _ h => h) hM (fun w hC => r_field hl rfl fld94_3) rfl ?_
    clear hl a; intro a hl
    refine d_take (i := 12) hl rfl (by kernel_rfl) (by kernel_rfl) (by kernel_rfl) (by kernel_rfl) (by kernel_rfl) rfl trivial (fun _ _ _ h => h) hM (fun w hC => r_move hl rfl) rfl ?_
    clear hl a; intro a hl
    refine d_take (i := 13) hl rfl (by kernel_rfl) (by kernel_rfl) (by kernel_rfl) (by kernel_rfl) (by kernel_rfl) rfl trivial (fun _ _ _ h => h) hM (fun w hC => r_move hl rfl) rfl ?_
    clear hl a; intro a hl
    refine d_take (i := 14) hl rfl (by kernel_rfl) (by kernel_rfl) (by kernel_rfl) (by kernel_rfl) (by kernel_rfl) rfl trivial (fun _ _ _ h => h) hM (fun w hC => r_move hl rfl) rfl ?_
    clear hl a; intro a hl
    refine d_take (i := 15) hl rfl (by kernel_rfl) (by kernel_rfl) (by kernel_rfl) (by kernel_rfl) (by kernel_rfl) rfl trivial (fun _ _ _ h => h) hM (fun w hC => r_nilCheck hl rfl) rfl ?_
    clear hl a; intro a hl
    refine d_take (i := 16) hl rfl (by kernel_rfl) (by kernel_rfl) (by kernel_rfl) (by kernel_rfl) (by kernel_rfl) rfl trivial (fun _ _ _ h => h) hM (fun w hC => r_field hl rfl fld94_2) rfl ?_
    clear hl a; intro a hl
    refine d_take (i := 17) hl rfl (by kernel_rfl) (by kernel_rfl) (by kernel_rfl) (by kernel_rfl) (by kernel_rfl) rfl trivial (fun _ _ _ h => h) hM (fun w hC => r_indexA hl rfl rfl arr43 (by omega) (by omega) (by first | (simp only [Int.reduceToNat]; rfl) | exact toNat_add1 _ | exact toNat_add2 _ _ | exact toNat_emod _ _ | exact Int.toNat_natCast _ | rfl)) rfl ?_
    clear hl a; intro a hl
    refine d_take (i := 18) hl rfl (by kernel_rfl) (by kernel_rfl) (by kernel_rfl) (by kernel_rfl) (by kernel_rfl) rfl trivial (fun _ _ _ h => h) hM (fun w hC => r_loadC hl rfl one42 hC (by repeat (first | exact find_head | apply find_tail)) (by first | exact fg_ep' hS.gr.ep ht | rfl)) rfl ?_
    clear hl a; intro a hl
    refine d_one (i := 8) (by kernel_rfl) rfl ?_
    try clear hM
    refine id (w_call hl hh rfl trivial rfl cal25 rfl (home_spec t ht) (by repeat (first | exact keeps_nil | apply keeps_cons (by repeat (first | exact find_head | apply find_tail)) (by first  | rfl) | exact keeps_self | apply keeps_mv)) trivial ?_)
    clear hl hh a w; intro vc Fc a w hR hl hh
    obtain ⟨rfl, rfl⟩ := hR
    try simp only [List.cons_append, List.nil_append] at hh
    have hM : Mem [(bg, C (arrL 146 M.fg) 94)] w := (by (repeat (first | exact Mem.nil | refine Mem.consR hh (by assumption) (by simp) ?_ | refine Mem.cons hh.mem (by (repeat (first | exact find_head | apply find_tail)); done) ?_ | fail)); done)
    refine d_step (fun _ => hM) ?_
    refine d_take (i := 11) hl rfl (by kernel_rfl) (by kernel_rfl) (by kernel_rfl) (by kernel_rfl) (by kernel_rfl) rfl trivial (fun _ _ _ h => h) hM (fun w hC => r_indexA hl rfl rfl arr92 (by omega) (by omega) (by first | (simp only [Int.reduceToNat]; rfl) | exact toNat_add1 _ | exact toNat_add2 _ _ | exact toNat_emod _ _ | exact Int.toNat_natCast _ | rfl)) rfl ?_
    clear hl a; intro a hl
    refine d_one (i := 19) (by kernel_rfl) rfl ?_
    try clear hM
    refine id (w_call hl hh rfl trivial rfl cal39 rfl (succ_spec (hS.gr.at_ ht) (by omega) ht bg (hG.wb hq ht).len (g.ep t) (hG.ok t ht).srt) (by repeat (first | exact keeps_nil | apply keeps_cons (by repeat (first | exact find_head | apply find_tail)) (by first  | rfl) | exact keeps_self | apply keeps_mv)) (mem_keep hh (fun b o m => by rcases List.mem_cons.1 m with e | m; (injection e with e1 e2; rw [e1, e2]; exact hmG); exact mem_famR hmF (r := 16 * (t % 4) + t) (by omega) b o m)) ?_)
    clear hl hh a w; intro vc Fc a w hR hl hh
    obtain ⟨rfl, rfl⟩ := hR
    try simp only [List.cons_append, List.nil_append] at hh
    have hM : Mem [(bg, C (arrL 146 M.fg) 94)] w := (by (repeat (first | exact Mem.nil | refine Mem.consR hh (by assumption) (by simp) ?_ | refine Mem.cons hh.mem (by (repeat (first | exact find_head | apply find_tail)); done) ?_ | fail)); done)
    refine d_step (fun _ => hM) ?_
    refine d_takeL (i := 20) hl rfl (by kernel_rfl) (by kernel_rfl) (by kernel_rfl) (by kernel_rfl) (by kernel_rfl) rfl trivial (fun _ _ _ h => h) (fun w => r_assign hl rfl) rfl ?_
    clear hl a; intro a hl
    refine d_takeL (i := 21) hl rfl (by kernel_rfl) (by kernel_rfl) (by kernel_rfl) (by kernel_rfl) (by kernel_rfl) rfl trivial (fun _ _ _ h => h) (fun w => r_assign hl rfl) rfl ?_
    clear hl a; intro a hl
    refine d_done (by kernel_rfl) ?_
    try clear hM
    have hl2 := hl.add (t := 4) (hl.add (t := 5) (hl.nil) rfl) rfl; clear hl; have hl := hl2; clear hl2
    refine then_normal ?_
    refine wp_ret ?_
    refine f_ret2 (F' := []) hl hh rfl rfl rfl (by repeat (first | exact keeps_nil | apply keeps_cons (by repeat (first | exact find_head | apply find_tail)) (by first  | rfl) | exact keeps_self | apply keeps_mv)) ?_
    exact ⟨rfl, rfl⟩
end Go.Proofs.Qxb6500911aGreatDoor

import Derived.Test.Qxb6500908aGreatX11
namespace Go.Proofs.Qxb6500908aGreat
open Go.Eng
set_option linter.unusedVariables false
set_option linter.unusedSimpArgs false
theorem fld30_0 : fieldOk Tryz.prog 30 0 0 = true := by kernel_rfl
theorem one28 : oneOk Tryz.prog 28 = true := by kernel_rfl
theorem sp_fr {P : Program} {f : FuncId} {args : Array Value} {A G F : List (Nat × Obj)} {R R' : Value → List (Nat × Obj) → Prop} (h : Sp P f args A R) (p : F.Perm (A ++ G)) (hr : ∀ v F2, R v F2 → ∃ F', R' v F' ∧ (F2 ++ G).Perm F') : Sp P f args F R' := by
  intro w _ hm hn
  have hh := (Has.start hm hn).perm p
  refine (h w trivial hh.left.1 hh.left.2).mono fun e w' he => ?_
  cases e with
  | returned v =>
    obtain ⟨F2, hR, hhas⟩ := he
    obtain ⟨F', h1, h2⟩ := hr v F2 hR
    exact ⟨F', h1, (hh.call (fun b hb => hb) hhas).perm h2⟩
  | panicked c => exact he.elim
  | outgrown => exact he.elim
theorem gf_led (W : WoV) (Z : List (Nat × Obj)) (hW : W.ok Z) : ∃ G, (W.GF Z).Perm (LdV.F W.lb W.l ++ G) := by
  unfold WoV.GF
  cases hg : W.g with
  | none => exact ⟨Z, List.Perm.refl _⟩
  | some y =>
    have hled := (hW.g y hg).2.1
    refine ⟨Z ++ ((y.1, C y.2.c 127) :: (y.2.st.E ++ (y.2.qE ++ ((y.2.rb, MD (kInt .u32) y.2.rl y.2.rn) :: y.2.oE)))), ?_⟩
    simp only
    unfold GF LdV.F
    rw [hled]
    have e : (y.1, C y.2.c 127) :: (y.2.st.E ++ (y.2.qE ++ ((y.2.rb, MD (kInt .u32) y.2.rl y.2.rn) :: (y.2.oE ++ ((W.lb, C W.l.c 91) :: (W.l.d.E ++ Z)))))) = ((y.1, C y.2.c 127) :: (y.2.st.E ++ (y.2.qE ++ ((y.2.rb, MD (kInt .u32) y.2.rl y.2.rn) :: y.2.oE)))) ++ ((W.lb, C W.l.c 91) :: (W.l.d.E ++ Z)) := by simp
    rw [e]
    refine List.perm_append_comm.trans ?_
    simp only [List.cons_append, List.append_assoc]
    exact List.Perm.refl _
theorem durW (W : WoV) (Z : List (Nat × Obj)) (hW : W.ok Z) : Sp Tryz.prog 13 #[.pointer (some ⟨W.lb, 0, none⟩)] (W.GF Z) (fun v F' => ∃ s' : StV, s'.ok Z ∧ s'.pl = W.l.pl.d ∧ v = .agg ⟨s'.c⟩ ∧ F' = s'.E ++ W.GF Z) := by
  obtain ⟨G, hG⟩ := gf_led W Z hW
  refine sp_fr (durable_spec Z W.lb W.l hW.l) hG fun v F2 ⟨s', h1, h2, h3, h4⟩ => ?_
  exact ⟨s'.E ++ W.GF Z, ⟨s', h1, h2, h3, rfl⟩, by rw [h4, List.append_assoc]; exact List.Perm.append_left _ hG.symm⟩
theorem downW (W : WoV) (Z : List (Nat × Obj)) {gb : Nat} {g : GtV} (hg : W.g = some (gb, g)) : Sp Tryz.prog 40 #[.pointer (some ⟨gb, 0, none⟩)] (W.GF Z) (fun v F' => v = .bool g.off ∧ F' = W.GF Z) := by
  unfold WoV.GF
  rw [hg]
  simp only
  unfold GF
  refine sp_fr (down_spec gb g) (List.Perm.refl _) fun v F2 ⟨h1, h2⟩ => ?_
  exact ⟨_, ⟨h1, rfl⟩, by rw [h2]; exact List.Perm.refl _⟩
theorem waitW (W : WoV) (Z : List (Nat × Obj)) {gb : Nat} {g : GtV} (hg : W.g = some (gb, g)) : Sp Tryz.prog 114 #[.pointer (some ⟨gb, 0, none⟩)] (W.GF Z) (fun v F' => v = .int .i64 (g.q.length : Int) ∧ F' = W.GF Z) := by
  unfold WoV.GF
  rw [hg]
  simp only
  unfold GF
  refine sp_fr (waiting_spec gb g) (List.Perm.refl _) fun v F2 ⟨h1, h2⟩ => ?_
  exact ⟨_, ⟨h1, rfl⟩, by rw [h2]; exact List.Perm.refl _⟩

attribute [local irreducible] NtV.k StV.c LdV.c StV.E GtV.c GtV.t orB sh1 WoV.c wst postP

set_option maxHeartbeats 1000000 in
theorem b_after (F : List (Nat × Obj)) (lb : Nat) : Sp Tryz.prog 93 #[.pointer (some ⟨lb, 0, none⟩)] F (fun v F' => v = .bool true ∧ F' = F) := by
  refine f_enter (args := [.pointer (some ⟨lb, 0, none⟩)]) Tryz.func93 rfl Tryz.ntmps93 rfl ?_
  intro w0 w a hpre hl hh
  generalize hDD : List.map Prod.fst F = D at hh ⊢
  simp only [slotsFrom, Nat.reduceAdd] at hl
  refine c_seq ?_
  refine c_region ?_
  refine wl (wl_val hl rfl trivial (r_assign hl rfl) ?_)
  clear hl a; intro a hl
  refine w_nil ?_
  have hl2 := hl.nil; clear hl; have hl := hl2; clear hl2
  refine then_normal ?_
  refine c_seq ?_
  refine c_region ?_
  refine wl (wl_val hl rfl trivial (r_assign hl rfl) ?_)
  clear hl a; intro a hl
  refine w_nil ?_
  have hl2 := hl.add (t := 2) (hl.nil) rfl; clear hl; have hl := hl2; clear hl2
  refine then_normal ?_
  refine wp_ret ?_
  refine f_ret1 (F' := F) hl hh rfl rfl (by repeat (first | exact keeps_nil | apply keeps_cons (by repeat (first | exact find_head | apply find_tail | apply find_skip)) (by first  | rfl) | exact keeps_self | exact keeps_left | apply keeps_app | apply keeps_mv | apply keeps_skip)) ?_
  exact ⟨rfl, rfl⟩

set_option maxHeartbeats 1000000 in
theorem b_bind (lb wb : Nat) (v0 : Value) (r : List Value) (T : TypeId) : Sp Tryz.prog 94 #[.pointer (some ⟨lb, 0, none⟩), .pointer (some ⟨wb, 0, none⟩)] [(lb, C (v0 :: r) T)] (fun v F' => v = .tuple #[] ∧ F' = [(lb, C (.pointer (some ⟨wb, 0, none⟩) :: r) T)]) := by
  refine f_enter (args := [.pointer (some ⟨lb, 0, none⟩), .pointer (some ⟨wb, 0, none⟩)]) Tryz.func94 rfl Tryz.ntmps94 rfl ?_
  intro w0 w a hpre hl hh
  simp only [slotsFrom, Nat.reduceAdd] at hl
  refine c_region ?_
  refine wl (wl_val hl rfl trivial (r_move hl rfl) ?_)
  clear hl a; intro a hl
  refine wl (wl_val hl rfl trivial (r_move hl rfl) ?_)
  clear hl a; intro a hl
  refine wl (wl_val hl rfl trivial (r_nilCheck hl rfl) ?_)
  clear hl a; intro a hl
  refine wl (wl_val hl rfl trivial (r_field hl rfl fld30_0) ?_)
  clear hl a; intro a hl
  refine wl (w_store hl hh trivial one28 rfl rfl (by repeat (first | exact find_head | apply find_tail | apply find_skip)) (by first | (simp; done) | (simp; omega)) (by first | rfl | assumption | (apply Row.one; assumption)) (by first | rfl | (simp only [setL, List.getElem?_cons_zero, List.getElem?_cons_succ, Value.cells, List.take_zero, List.take_succ_cons, List.take_nil, List.drop_zero, List.drop_succ_cons, List.drop_nil, List.length_cons, List.length_nil, List.cons_append, List.nil_append, List.append_nil, Nat.zero_add, Nat.add_zero, Nat.reduceAdd, Nat.reduceBEq, Nat.reduceEqDiff, Nat.ble, BEq.rfl, Bool.and_true, Bool.and_self, cond_true, beq_self_eq_true]; rfl)) ?_)
  clear hh w; intro w hh
  refine w_nil ?_
  have hl2 := hl.nil; clear hl; have hl := hl2; clear hl2
  refine f_end0 (F' := [(lb, C (.pointer (some ⟨wb, 0, none⟩) :: r) T)]) hl hh rfl (by repeat (first | exact keeps_nil | apply keeps_cons (by repeat (first | exact find_head | apply find_tail | apply find_skip)) (by first  | rfl) | exact keeps_self | exact keeps_left | apply keeps_app | apply keeps_mv | apply keeps_skip)) ?_
  exact ⟨rfl, rfl⟩

set_option maxHeartbeats 1000000 in
theorem b_fate (F : List (Nat × Obj)) (lb : Nat) (a0 : List Value) (ha : a0.length = 18) (h1 : a0.all (·.oneCell') = true) : Sp Tryz.prog 126 #[.pointer (some ⟨lb, 0, none⟩), .agg ⟨a0⟩] F (fun v F' => v = .tuple #[] ∧ F' = F) := by
  refine f_enter (args := [.pointer (some ⟨lb, 0, none⟩), .agg ⟨a0⟩]) Tryz.func126 rfl Tryz.ntmps126 rfl ?_
  intro w0 w a hpre hl hh
  generalize hDD : List.map Prod.fst F = D at hh ⊢
  simp only [slotsFrom, Nat.reduceAdd] at hl
  refine c_region ?_
  refine wl (w_box hl hh rfl trivial rfl rfl ?_)
  clear hl hh a w; intro k3 a w hl hh
  refine w_nil ?_
  have hl2 := hl.nil; clear hl; have hl := hl2; clear hl2
  refine f_end0 (F' := F) hl hh rfl (by repeat (first | exact keeps_nil | apply keeps_cons (by repeat (first | exact find_head | apply find_tail | apply find_skip)) (by first  | rfl) | exact keeps_self | exact keeps_left | apply keeps_app | apply keeps_mv | apply keeps_skip)) ?_
  exact ⟨rfl, rfl⟩

set_option maxHeartbeats 1000000 in
theorem b_fell (F : List (Nat × Obj)) (lb : Nat) : Sp Tryz.prog 127 #[.pointer (some ⟨lb, 0, none⟩)] F (fun v F' => v = .tuple #[] ∧ F' = F) := by
  refine f_enter (args := [.pointer (some ⟨lb, 0, none⟩)]) Tryz.func127 rfl Tryz.ntmps127 rfl ?_
  intro w0 w a hpre hl hh
  generalize hDD : List.map Prod.fst F = D at hh ⊢
  simp only [slotsFrom, Nat.reduceAdd] at hl
  refine wp_skip ?_
  refine f_end0 (F' := F) hl hh rfl (by repeat (first | exact keeps_nil | apply keeps_cons (by repeat (first | exact find_head | apply find_tail | apply find_skip)) (by first  | rfl) | exact keeps_self | exact keeps_left | apply keeps_app | apply keeps_mv | apply keeps_skip)) ?_
  exact ⟨rfl, rfl⟩

set_option maxHeartbeats 1000000 in
theorem b_fin (F : List (Nat × Obj)) (lb : Nat) : Sp Tryz.prog 98 #[.pointer (some ⟨lb, 0, none⟩)] F (fun v F' => v = .bool true ∧ F' = F) := by
  refine f_enter (args := [.pointer (some ⟨lb, 0, none⟩)]) Tryz.func98 rfl Tryz.ntmps98 rfl ?_
  intro w0 w a hpre hl hh
  generalize hDD : List.map Prod.fst F = D at hh ⊢
  simp only [slotsFrom, Nat.reduceAdd] at hl
  refine c_seq ?_
  refine c_region ?_
  refine wl (wl_val hl rfl trivial (r_assign hl rfl) ?_)
  clear hl a; intro a hl
  refine w_nil ?_
  have hl2 := hl.nil; clear hl; have hl := hl2; clear hl2
  refine then_normal ?_
  refine c_seq ?_
  refine c_region ?_
  refine wl (wl_val hl rfl trivial (r_assign hl rfl) ?_)
  clear hl a; intro a hl
  refine w_nil ?_
  have hl2 := hl.add (t := 2) (hl.nil) rfl; clear hl; have hl := hl2; clear hl2
  refine then_normal ?_
  refine wp_ret ?_
  refine f_ret1 (F' := F) hl hh rfl rfl (by repeat (first | exact keeps_nil | apply keeps_cons (by repeat (first | exact find_head | apply find_tail | apply find_skip)) (by first  | rfl) | exact keeps_self | exact keeps_left | apply keeps_app | apply keeps_mv | apply keeps_skip)) ?_
  exact ⟨rfl, rfl⟩

set_option maxHeartbeats 1000000 in
theorem b_boot (F : List (Nat × Obj)) (lb : Nat) (s : StV) (b : Bool) (v3 : Value) : Sp Tryz.prog 125 #[.pointer (some ⟨lb, 0, none⟩), .agg ⟨s.c⟩, .bool b, v3] F (fun v F' => v = .bool true ∧ F' = F) := by
  refine f_enter (args := [.pointer (some ⟨lb, 0, none⟩), .agg ⟨s.c⟩, .bool b, v3]) Tryz.func125 rfl Tryz.ntmps125 rfl ?_
  intro w0 w a hpre hl hh
  generalize hDD : List.map Prod.fst F = D at hh ⊢
  simp only [slotsFrom, Nat.reduceAdd] at hl
  refine c_seq ?_
  refine c_region ?_
  refine wl (w_box hl hh rfl trivial rfl rfl ?_)
  clear hl hh a w; intro k5 a w hl hh
  refine wl (wl_val hl rfl trivial (r_assign hl rfl) ?_)
  clear hl a; intro a hl
  refine w_nil ?_
  have hl2 := hl.nil; clear hl; have hl := hl2; clear hl2
  refine then_normal ?_
  refine c_seq ?_
  refine c_region ?_
  refine wl (wl_val hl rfl trivial (r_assign hl rfl) ?_)
  clear hl a; intro a hl
  refine w_nil ?_
  have hl2 := hl.add (t := 8) (hl.nil) rfl; clear hl; have hl := hl2; clear hl2
  refine then_normal ?_
  refine wp_ret ?_
  refine f_ret1 (F' := F) hl hh rfl rfl (by repeat (first | exact keeps_nil | apply keeps_cons (by repeat (first | exact find_head | apply find_tail | apply find_skip)) (by first  | rfl) | exact keeps_self | exact keeps_left | apply keeps_app | apply keeps_mv | apply keeps_skip)) ?_
  exact ⟨rfl, rfl⟩

set_option maxHeartbeats 1000000 in
theorem b_saw (F : List (Nat × Obj)) (lb : Nat) (i : InP) (p : Option Addr) (cap : Nat) (v2 v3 v4 : Value) : Sp Tryz.prog 128 #[.pointer (some ⟨lb, 0, none⟩), .agg ⟨inC i p cap⟩, v2, v3, v4] F (fun v F' => v = .bool true ∧ F' = F) := by
  refine f_enter (args := [.pointer (some ⟨lb, 0, none⟩), .agg ⟨[.int .u8 i.k, .int .u32 i.id, .int .u32 i.i2, .slice p i.tx.length cap, .int .u8 i.v.k, .int .u8 i.v.a, .int .u8 i.v.b, .int .u8 i.v.w, .int .u8 i.v.da, .int .u8 i.v.dl, .int .u8 i.m.k, .int .u8 i.m.d, .int .u32 i.m.e, .int .u32 i.m.b, .bool i.m.y, .int .u32 i.m.r, .int .u32 i.m.s, .string i.m.t]⟩, v2, v3, v4]) Tryz.func128 rfl Tryz.ntmps128 rfl ?_
  intro w0 w a hpre hl hh
  generalize hDD : List.map Prod.fst F = D at hh ⊢
  simp only [slotsFrom, Nat.reduceAdd] at hl
  refine c_seq ?_
  refine c_region ?_
  refine wl (w_box hl hh rfl trivial rfl rfl ?_)
  clear hl hh a w; intro k6 a w hl hh
  refine wl (wl_val hl rfl trivial (r_assign hl rfl) ?_)
  clear hl a; intro a hl
  refine w_nil ?_
  have hl2 := hl.nil; clear hl; have hl := hl2; clear hl2
  refine then_normal ?_
  refine c_seq ?_
  refine c_region ?_
  refine wl (wl_val hl rfl trivial (r_assign hl rfl) ?_)
  clear hl a; intro a hl
  refine w_nil ?_
  have hl2 := hl.add (t := 10) (hl.nil) rfl; clear hl; have hl := hl2; clear hl2
  refine then_normal ?_
  refine wp_ret ?_
  refine f_ret1 (F' := F) hl hh rfl rfl (by repeat (first | exact keeps_nil | apply keeps_cons (by repeat (first | exact find_head | apply find_tail | apply find_skip)) (by first  | rfl) | exact keeps_self | exact keeps_left | apply keeps_app | apply keeps_mv | apply keeps_skip)) ?_
  exact ⟨rfl, rfl⟩
end Go.Proofs.Qxb6500908aGreat

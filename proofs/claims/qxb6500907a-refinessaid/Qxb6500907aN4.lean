import Derived.Test.Qxb6500907aN3
namespace Go.Proofs.Qxb6500907a
open Go.Eng
set_option linter.unusedVariables false
set_option linter.unusedSimpArgs false
theorem bld133 : buildOk Try.prog 133 [(0, 64), (64, 16)] = true := by kernel_rfl
theorem agg33 : aggOk Try.prog 33 64 = true := by kernel_rfl
theorem agg133 : aggOk Try.prog 133 80 = true := by kernel_rfl
theorem cal58 : callable Try.prog 58 = true := by kernel_rfl
def nilV : Nat → Value := fun _ => .slice none 0 0
def pz : Pl := ⟨fun _ => [], fun _ => [], fun _ => 0, fun _ => 0⟩
theorem zero33 : zeroOk Try.prog 33 (.agg ⟨arrL 64 (nvF nilV nilV pz)⟩) := by unfold zeroOk arrL; kernel_rfl
theorem zero133 : zeroOk Try.prog 133 (.agg ⟨arrL 80 (edF nilV nilV pz fun _ => false)⟩) := by unfold zeroOk arrL; kernel_rfl
theorem whole (N : Nat) (g : Nat → Value) : ((arrL N g).drop 0).take N = arrL N g := by
  rw [List.drop_zero]
  have := arrL_length N g
  rw [List.take_of_length_le (by omega)]
theorem setw (N : Nat) (g g' : Nat → Value) : setL (arrL N g) 0 (arrL N g') = arrL N g' := by
  have h1 := arrL_length N g
  have h2 := arrL_length N g'
  unfold setL
  rw [List.take_zero, List.nil_append, List.drop_eq_nil_of_le (by omega), List.append_nil]
theorem ed_take (rv av : Nat → Value) (P : Pl) (ow : Nat → Bool) : ((arrL 80 (edF rv av P ow)).drop (0 + 0)).take 64 = arrL 64 (nvF rv av P) := by
  apply List.ext_getElem?
  intro j
  rw [Nat.add_zero, List.drop_zero, List.getElem?_take]
  by_cases h : j < 64
  · rw [if_pos h, arrL_get (by omega), arrL_get h]; unfold edF; rw [if_pos h]
  · rw [if_neg h, List.getElem?_eq_none (by rw [arrL_length]; omega)]
theorem ed_build (rv av : Nat → Value) (P : Pl) : setL (arrL 80 (edF nilV nilV pz fun _ => false)) 0 (arrL 64 (nvF rv av P)) = arrL 80 (edF rv av P fun _ => false) := by
  have h2 := arrL_length 64 (nvF rv av P)
  apply List.ext_getElem?
  intro j
  unfold setL
  rw [List.take_zero, List.nil_append]
  by_cases h : j < 64
  · rw [List.getElem?_append_left (by omega), arrL_get h]
    rw [arrL_get (by omega)]; unfold edF; rw [if_pos h]
  · rw [List.getElem?_append_right (by omega), h2, List.getElem?_drop]
    by_cases h3 : j < 80
    · rw [show 0 + 64 + (j - 64) = j by omega, arrL_get h3, arrL_get h3]; unfold edF; rw [if_neg h, if_neg h]
    · rw [List.getElem?_eq_none (by rw [arrL_length]; omega), List.getElem?_eq_none (by rw [arrL_length]; omega)]
theorem ed_fill (rv av : Nat → Value) (P : Pl) : fillL [(0, 64), (64, 16)] (arrL 80 (edF nilV nilV pz fun _ => false)) [(0, .agg ⟨arrL 64 (nvF rv av P)⟩)] = some (arrL 80 (edF rv av P fun _ => false)) := by
  have h1 : (Value.agg ⟨arrL 64 (nvF rv av P)⟩).cells.toList = arrL 64 (nvF rv av P) := rfl
  simp only [fillL, h1, arrL_length, List.getElem?_cons_zero]
  rw [ed_build]
  rfl
theorem nv_one {rv av : Nat → Value} {P : Pl} (h : ∀ d, d < 16 → (rv d).oneCell' = true ∧ (av d).oneCell' = true) : (arrL 64 (nvF rv av P)).all (·.oneCell') = true := by
  rw [List.all_eq_true]
  intro v hv
  unfold arrL at hv
  obtain ⟨j, hj, rfl⟩ := List.mem_map.1 hv
  rw [List.mem_range] at hj
  unfold nvF
  repeat' split
  · exact (h _ (by omega)).1
  · exact (h _ (by omega)).2
  · rfl
  · rfl
theorem ed_one {rv av : Nat → Value} {P : Pl} {ow : Nat → Bool} (h : ∀ d, d < 16 → (rv d).oneCell' = true ∧ (av d).oneCell' = true) : (arrL 80 (edF rv av P ow)).all (·.oneCell') = true := by
  rw [List.all_eq_true]
  intro v hv
  unfold arrL at hv
  obtain ⟨j, hj, rfl⟩ := List.mem_map.1 hv
  rw [List.mem_range] at hj
  unfold edF nvF
  repeat' split
  · exact (h _ (by omega)).1
  · exact (h _ (by omega)).2
  · rfl
  · rfl
  · rfl
/-- the lists of a network lie in the blocks Z -/
def NetR (rv av : Nat → Value) (P : Pl) (Z : List (Nat × Obj)) : Prop := ∀ d, d < 16 → ∃ Er Ea, RowR (rv d) (P.rs d) Er ∧ RowA (av d) (P.al d) Ea ∧ ∀ x, x ∈ Er ++ Ea → x ∈ Z
theorem NetR.one {rv av : Nat → Value} {P : Pl} {Z : List (Nat × Obj)} (h : NetR rv av P Z) : ∀ d, d < 16 → (rv d).oneCell' = true ∧ (av d).oneCell' = true := fun d hd => by
  obtain ⟨Er, Ea, h1, h2, _⟩ := h d hd
  exact ⟨h1.one, h2.one⟩
theorem NetR.mono {rv av : Nat → Value} {P : Pl} {Z Z' : List (Nat × Obj)} (h : NetR rv av P Z) (hz : ∀ x, x ∈ Z → x ∈ Z') : NetR rv av P Z' := fun d hd => by
  obtain ⟨Er, Ea, h1, h2, h3⟩ := h d hd
  exact ⟨Er, Ea, h1, h2, fun x hx => hz x (h3 x hx)⟩
def tabX (f : Nat → List (Nat × Obj)) : List (Nat × Obj) := (List.range 16).flatMap f
theorem flat_pull (f : Nat → List (Nat × Obj)) (d : Nat) : ∀ n, d < n → ((List.range n).flatMap f).Perm (f d ++ (List.range n).flatMap (upd f d []))
  | 0, h => by omega
  | n + 1, h => by
    rw [List.range_succ, List.flatMap_append, List.flatMap_append]
    simp only [List.flatMap_cons, List.flatMap_nil, List.append_nil]
    by_cases e : d = n
    · subst e
      rw [upd_same, List.append_nil]
      have : (List.range d).flatMap (upd f d []) = (List.range d).flatMap f := by
        unfold List.flatMap
        congr 1
        apply List.map_congr_left
        intro j hj
        rw [List.mem_range] at hj
        exact upd_other f [] (by omega)
      rw [this]
      exact List.perm_append_comm
    · rw [upd_other f [] (by omega), ← List.append_assoc]
      exact List.Perm.append_right _ (flat_pull f d n (by omega))
theorem tab_pull {f : Nat → List (Nat × Obj)} {d : Nat} (h : d < 16) : (tabX f).Perm (f d ++ tabX (upd f d [])) := flat_pull f d 16 h
theorem tab_put {f : Nat → List (Nat × Obj)} {d : Nat} {X : List (Nat × Obj)} (h : d < 16) : (X ++ tabX (upd f d [])).Perm (tabX (upd f d X)) := by
  have := tab_pull (f := upd f d X) h
  rw [upd_same, upd_upd] at this
  exact this.symm
theorem tab_mem {f : Nat → List (Nat × Obj)} {d : Nat} (h : d < 16) {x : Nat × Obj} (hx : x ∈ f d) : x ∈ tabX f := List.mem_flatMap.2 ⟨d, List.mem_range.2 h, hx⟩
def EdI (rv av : Nat → Value) (P : Pl) (ow : Nat → Bool) (f : Nat → List (Nat × Obj)) (Z : List (Nat × Obj)) : Prop := ∀ d, d < 16 →
  (ow d = true ∧ ∃ Er Ea, RowR (rv d) (P.rs d) Er ∧ RowA (av d) (P.al d) Ea ∧ (f d).Perm (Er ++ Ea)) ∨
  (ow d = false ∧ f d = [] ∧ ∃ Er Ea, RowR (rv d) (P.rs d) Er ∧ RowA (av d) (P.al d) Ea ∧ ∀ x, x ∈ Er ++ Ea → x ∈ Z)
theorem EdI.start {rv av : Nat → Value} {P : Pl} {Z : List (Nat × Obj)} (h : NetR rv av P Z) : EdI rv av P (fun _ => false) (fun _ => []) Z := fun d hd => .inr ⟨rfl, rfl, h d hd⟩
theorem EdI.dev {rv av : Nat → Value} {P : Pl} {ow : Nat → Bool} {f : Nat → List (Nat × Obj)} {Z : List (Nat × Obj)} {eb d : Nat} (h : EdI rv av P ow f Z) (hd : d < 16) (hne : ∀ x, x ∈ Z → x.1 ≠ eb) : ∃ Zd, DevI rv av P ow d eb Zd (f d) ∧ ∀ x, x ∈ Zd → x ∈ Z := by
  rcases h d hd with ⟨h1, Er, Ea, h2, h3, h4⟩ | ⟨h1, h0, Er, Ea, h2, h3, h4⟩
  · exact ⟨[], .inl ⟨h1, Er, Ea, h2, h3, h4⟩, fun x hx => by cases hx⟩
  · exact ⟨Er ++ Ea, .inr ⟨h1, h0, Er, Ea, h2, h3, rfl, fun x hx => hne x (h4 x hx)⟩, h4⟩
theorem EdI.net {rv av : Nat → Value} {P : Pl} {ow : Nat → Bool} {f : Nat → List (Nat × Obj)} {Z : List (Nat × Obj)} (h : EdI rv av P ow f Z) : NetR rv av P (Z ++ tabX f) := fun d hd => by
  rcases h d hd with ⟨_, Er, Ea, h2, h3, h4⟩ | ⟨_, _, Er, Ea, h2, h3, h4⟩
  · exact ⟨Er, Ea, h2, h3, fun x hx => List.mem_append_right _ (tab_mem hd (h4.symm.subset hx))⟩
  · exact ⟨Er, Ea, h2, h3, fun x hx => List.mem_append_left _ (h4 x hx)⟩
theorem EdI.one {rv av : Nat → Value} {P : Pl} {ow : Nat → Bool} {f : Nat → List (Nat × Obj)} {Z : List (Nat × Obj)} (h : EdI rv av P ow f Z) : ∀ d, d < 16 → (rv d).oneCell' = true ∧ (av d).oneCell' = true := h.net.one
theorem doP_other (P : Pl) (c : Ch) {j : Nat} (h : j ≠ c.dv.toNat) : (doP P c).1.rs j = P.rs j ∧ (doP P c).1.al j = P.al j := by
  unfold doP
  repeat' split
  all_goals first
    | exact ⟨rfl, rfl⟩
    | exact ⟨upd_other _ _ h, rfl⟩
    | exact ⟨rfl, upd_other _ _ h⟩
theorem EdI.next {rv av : Nat → Value} {P : Pl} {ow : Nat → Bool} {f : Nat → List (Nat × Obj)} {Z : List (Nat × Obj)} (h : EdI rv av P ow f Z) {c : Ch} {d : Nat} (hdv : c.dv = (d : Int)) {rv' av' : Value} {Er Ea X : List (Nat × Obj)} (hr : RowR rv' ((doP P c).1.rs d) Er) (ha : RowA av' ((doP P c).1.al d) Ea) (hX : X.Perm (Er ++ Ea)) :
    EdI (upd rv d rv') (upd av d av') (doP P c).1 (upd ow d true) (upd f d X) Z := fun j hj => by
  by_cases e : j = d
  · subst e
    exact .inl ⟨upd_same _ _ _, Er, Ea, by rw [upd_same]; exact hr, by rw [upd_same]; exact ha, by rw [upd_same]; exact hX⟩
  · obtain ⟨e1, e2⟩ := doP_other P c (j := j) (by rw [hdv]; simpa using e)
    rw [upd_other _ _ e, upd_other _ _ e, upd_other _ _ e, upd_other _ _ e, e1, e2]
    exact h j hj
def stepS (s : Pl × List Ch × Int) (c : Ch) : Pl × List Ch × Int :=
  if s.2.2 = 0 then (if (doP s.1 c).2.2 = 0 then ((doP s.1 c).1, s.2.1 ++ [(doP s.1 c).2.1], 0) else (s.1, s.2.1, (doP s.1 c).2.2)) else s
def steps (P : Pl) (cs : List Ch) : Pl × List Ch × Int := cs.foldl stepS (P, [], 0)
theorem steps_snoc (P : Pl) (cs : List Ch) (c : Ch) : steps P (cs ++ [c]) = stepS (steps P cs) c := by unfold steps; rw [List.foldl_append]; rfl
theorem take_snoc {cs : List Ch} {i : Nat} {c : Ch} (h : cs[i]? = some c) : cs.take (i + 1) = cs.take i ++ [c] := by
  rw [List.take_add_one, h]; rfl
theorem steps_next {P P1 : Pl} {cs us : List Ch} {i : Nat} {c : Ch} (hc : cs[i]? = some c) (h : steps P (cs.take i) = (P1, us, 0)) (h0 : (doP P1 c).2.2 = 0) : steps P (cs.take (i + 1)) = ((doP P1 c).1, us ++ [(doP P1 c).2.1], 0) := by
  rw [take_snoc hc, steps_snoc, h]; unfold stepS; simp [h0]
/-- a refused batch -/
def RunBad (P : Pl) (cs : List Ch) (code pos : Int) : Prop :=
  (¬ chk cs ∧ 5 ≤ code ∧ code ≤ 12) ∨ (chk cs ∧ ∃ (i : Nat) (c : Ch) (P1 : Pl) (us : List Ch), pos = (i : Int) ∧ cs[i]? = some c ∧ steps P (cs.take i) = (P1, us, 0) ∧ (doP P1 c).2.2 = code ∧ code ≠ 0)
structure RS where
  i : Nat
  rv : Nat → Value
  av : Nat → Value
  P : Pl
  ow : Nat → Bool
  f : Nat → List (Nat × Obj)
  uv : Value
  us : List Ch
  Eu : List (Nat × Obj)
def RS.tail (s : RS) : List (Nat × Obj) := s.Eu ++ tabX s.f
structure RI (P0 : Pl) (cs : List Ch) (Z : List (Nat × Obj)) (s : RS) : Prop where
  hi : s.i ≤ cs.length
  st : steps P0 (cs.take s.i) = (s.P, s.us, 0)
  ok : POk s.P
  ed : EdI s.rv s.av s.P s.ow s.f Z
  ul : s.us.length = s.i
  uok : ∀ c, c ∈ s.us → c.ok
  row : Row s.uv s.us.length (chs s.us) 12 57 s.Eu
def RunR (rv av : Nat → Value) (P : Pl) (cs : List Ch) (Z : List (Nat × Obj)) (u : Value) (F' : List (Nat × Obj)) : Prop :=
  (∃ P' us rv' av' uv Eu X, chk cs ∧ steps P cs = (P', us, 0) ∧ us.length = cs.length ∧ (∀ c, c ∈ us → c.ok) ∧ POk P' ∧ NetR rv' av' P' (Z ++ X) ∧ Row uv us.length (chs us) 12 57 Eu ∧ u = .tuple #[.agg ⟨arrL 64 (nvF rv' av' P')⟩, uv, .nilIface] ∧ F' = Eu ++ X) ∨
  (∃ (k : Nat) (code pos : Int), RunBad P cs code pos ∧ u = .tuple #[.agg ⟨arrL 64 (nvF rv av P)⟩, .slice none 0 0, .iface 77 (.pointer (some ⟨k, 0, none⟩))] ∧ F' = [(k, C [.int .u8 code, .int .i64 pos] 79)])
theorem has_pull {D : List Nat} {w0 w : World} {A Eu : List (Nat × Obj)} {f : Nat → List (Nat × Obj)} {d : Nat} (hd : d < 16) (h : Has D w0 (A ++ (Eu ++ tabX f)) w) : Has D w0 (A ++ (f d ++ (Eu ++ tabX (upd f d [])))) w :=
  h.perm (List.Perm.append_left _ (((List.Perm.append_left Eu (tab_pull hd)).trans (by rw [← List.append_assoc, ← List.append_assoc]; exact List.Perm.append_right _ List.perm_append_comm))))
theorem has_put {D : List Nat} {w0 w : World} {x : Nat × Obj} {X l Eu : List (Nat × Obj)} {f : Nat → List (Nat × Obj)} {d : Nat} (hd : d < 16) (h : Has D w0 (x :: (X ++ (l ++ (Eu ++ tabX (upd f d []))))) w) : Has D w0 (x :: (l ++ (Eu ++ tabX (upd f d X)))) w := by
  refine h.perm (List.Perm.cons _ ?_)
  refine List.Perm.trans ?_ (List.Perm.append_left l (List.Perm.append_left Eu (tab_put (X := X) hd)))
  have : (X ++ (l ++ Eu) ++ tabX (upd f d [])).Perm ((l ++ Eu) ++ X ++ tabX (upd f d [])) := List.Perm.append_right _ List.perm_append_comm
  simpa [List.append_assoc] using this


set_option maxHeartbeats 8000000 in
theorem run_spec (idv : Int) (rv av : Nat → Value) (P : Pl) (Z : List (Nat × Obj)) (hN : NetR rv av P Z) (hP : POk P) (p : Option Addr) (cap : Nat) (cs : List Ch) (Ec : List (Nat × Obj)) (hR : Row (.slice p cs.length cap) cs.length (chs cs) 12 57 Ec) (hEc : ∀ x, x ∈ Ec → x ∈ Z) (hok : ∀ c, c ∈ cs → c.ok) (hlen : cs.length ≤ 1000000) : SpK Try.prog 41 #[.agg ⟨arrL 64 (nvF rv av P)⟩, .agg ⟨[.int .u32 idv, .slice p cs.length cap]⟩] (Mem Z) [] (RunR rv av P cs Z) := by
  refine f_enter (args := [.agg ⟨arrL 64 (nvF rv av P)⟩, .agg ⟨[.int .u32 idv, .slice p cs.length cap]⟩]) Try.func41 rfl Try.ntmps41 rfl ?_
  intro w0 w a hpre hl hh
  simp only [slotsFrom, Nat.reduceAdd] at hl
  refine c_seq ?_
  refine c_region ?_
  refine wl (w_box hl hh rfl trivial rfl rfl ?_)
  clear hl hh a w; intro k2 a w hl hh
  refine wl (w_box hl hh rfl trivial rfl rfl ?_)
  clear hl hh a w; intro k3 a w hl hh
  refine wl (w_alloc hl hh rfl trivial zero33 rfl ?_)
  clear hl hh a w; intro k4 a w hl hh
  refine wl (wl_val hl rfl trivial (r_assign hl rfl) ?_)
  clear hl a; intro a hl
  refine wl (wl_val hl rfl trivial (r_assign hl rfl) ?_)
  clear hl a; intro a hl
  refine w_nil ?_
  have hl2 := hl.add (t := 2) (hl.add (t := 3) (hl.add (t := 4) (hl.nil) rfl) rfl) rfl; clear hl; have hl := hl2; clear hl2
  refine then_normal ?_
  refine c_seq ?_
  refine c_seq ?_
  refine c_region ?_
  first | refine wl (w_loadA hl hh rfl trivial agg37 rfl (by repeat (first | exact find_head | apply find_tail)) (by first | (simp only [List.getElem?_cons_zero, List.getElem?_cons_succ, Value.cells, List.take_zero, List.take_succ_cons, List.take_nil, List.drop_zero, List.drop_succ_cons, List.drop_nil, List.length_cons, List.length_nil, List.cons_append, List.nil_append, List.append_nil, Nat.zero_add, Nat.add_zero, Nat.reduceAdd, Nat.reduceBEq, Nat.reduceEqDiff, Nat.ble, BEq.rfl, Bool.and_true, Bool.and_self, cond_true, beq_self_eq_true]; rfl)) (by first | rfl | (simp; done)) ?_) | refine wl (w_loadRA hl hh rfl trivial agg37 rfl hm (by simp) hrowi rfl ?_)
  clear hl a; intro a hl
  refine wl (w_call hl hh rfl trivial rfl cal11 rfl (check_ro idv p cap cs Ec hR hok hlen) (by repeat (first | exact keeps_nil | apply keeps_cons (by repeat (first | exact find_head | apply find_tail)) (by first  | rfl) | exact keeps_self | exact keeps_left | exact keeps_right | exact keeps_swap | apply keeps_mv)) (mem_keep hh (fun b o m => hpre b o (hEc _ m))) ?_)
  clear hl hh a w; intro vc Fc a w hR hl hh
  rcases hR with ⟨hchk, rfl, rfl⟩ | ⟨hchk, k, code, pos, rfl, rfl, hc1, hc2⟩
  ·
    try simp only [List.cons_append, List.nil_append, List.append_nil] at hh
    have hc128 := hchk.1
    refine wl (wl_val hl rfl trivial (r_assign hl rfl) ?_)
    clear hl a; intro a hl
    refine w_nil ?_
    have hl2 := hl.add (t := 2) (hl.add (t := 3) (hl.add (t := 4) (hl.add (t := 7) (hl.nil) rfl) rfl) rfl) rfl; clear hl; have hl := hl2; clear hl2
    refine then_normal ?_
    refine c_seq ?_
    refine c_region ?_
    refine wl (wl_val hl rfl trivial (r_move hl rfl) ?_)
    clear hl a; intro a hl
    first | refine wl (wl_val hl rfl trivial (r_neq_ifcN hl rfl ifc39) ?_) | refine wl (wl_val hl rfl trivial (r_neq_ifcS hl rfl ifc39) ?_)
    clear hl a; intro a hl
    refine w_nil ?_
    have hl2 := hl.add (t := 2) (hl.add (t := 3) (hl.add (t := 4) (hl.add (t := 7) (hl.add (t := 17) (hl.nil) rfl) rfl) rfl) rfl) rfl; clear hl; have hl := hl2; clear hl2
    refine then_normal ?_
    refine c_condF hl rfl ?_
    refine wp_skip ?_
    refine then_normal ?_
    refine c_seq ?_
    refine c_region ?_
    first | refine wl (w_loadA hl hh rfl trivial agg33 rfl (by repeat (first | exact find_head | apply find_tail)) (by first | exact whole _ _ | exact ed_take _ _ _ _) (by rw [arrL_length]) ?_) | refine wl (w_loadRA hl hh rfl trivial agg33 rfl hm (by simp) hrowi rfl ?_)
    clear hl a; intro a hl
    refine wl (wl_val hl rfl trivial (r_build hl rfl zero133 bld133 (ed_fill rv av P)) ?_)
    clear hl a; intro a hl
    refine wl (w_alloc hl hh rfl trivial zero133 rfl ?_)
    clear hl hh a w; intro k8 a w hl hh
    refine wl (w_storeA hl hh trivial agg133 rfl rfl (by repeat (first | exact find_head | apply find_tail)) (by rw [arrL_length]) (by rw [arrL_length]; omega) (by exact ed_one hN.one) (by exact setw _ _ _) ?_)
    clear hh w; intro w hh
    refine w_nil ?_
    have hl2 := hl.add (t := 2) (hl.add (t := 3) (hl.add (t := 4) (hl.add (t := 8) (hl.nil) rfl) rfl) rfl) rfl; clear hl; have hl := hl2; clear hl2
    refine then_normal ?_
    refine c_seq ?_
    refine c_region ?_
    refine wl (wl_val hl rfl trivial (r_field hl rfl fld37_1) ?_)
    clear hl a; intro a hl
    refine wl (w_load hl hh rfl trivial one35 rfl (by repeat (first | exact find_head | apply find_tail)) (by first | rfl) ?_)
    clear hl a; intro a hl
    refine wl (wl_val hl rfl trivial (r_lenS hl rfl slc35) ?_)
    clear hl a; intro a hl
    refine wl (w_makeSlice0 hl hh rfl trivial app35 rfl rfl (by omega) (by decide) ?_)
    clear hl hh a w; intro k25 jk25 a w hjk25 hl hh
    refine wl (wl_val hl rfl trivial (r_assign hl rfl) ?_)
    clear hl a; intro a hl
    refine w_nil ?_
    have hl2 := hl.add (t := 2) (hl.add (t := 3) (hl.add (t := 4) (hl.add (t := 8) (hl.add (t := 9) (hl.nil) rfl) rfl) rfl) rfl) rfl; clear hl; have hl := hl2; clear hl2
    refine then_normal ?_
    refine c_seq ?_
    refine c_seq ?_
    refine c_region ?_
    refine wl (wl_val hl rfl trivial (r_field hl rfl fld37_1) ?_)
    clear hl a; intro a hl
    refine wl (w_load hl hh rfl trivial one35 rfl (by repeat (first | exact find_head | apply find_tail)) (by first | rfl) ?_)
    clear hl a; intro a hl
    refine wl (wl_val hl rfl trivial (r_lenS hl rfl slc35) ?_)
    clear hl a; intro a hl
    refine wl (wl_val hl rfl trivial (r_move hl rfl) ?_)
    clear hl a; intro a hl
    refine w_nil ?_
    have hl2 := hl.add (t := 2) (hl.add (t := 4) (hl.add (t := 8) (hl.add (t := 9) (hl.add (t := 27) (hl.add (t := 28) (hl.add (t := 29) (hl.nil) rfl) rfl) rfl) rfl) rfl) rfl) rfl; clear hl; have hl := hl2; clear hl2
    refine then_normal ?_
    refine wp_block ?_
    obtain ⟨KS0, hKS0, hk⟩ := (hl.add (t := 2) (hl.add (t := 4) (hl.add (t := 8) (hl.add (t := 27) (hl.add (t := 28) (hl.nil) rfl) rfl) rfl) rfl) rfl).name
    obtain ⟨HS0, hHS0, hh2⟩ := hh.nameT (A := [(k2, C (arrL 64 (nvF rv av P)) 33), (k3, C [.int .u32 idv, .slice p cs.length cap] 37), (k4, C (arrL 64 (nvF nilV nilV pz)) 33), (k8, C (arrL 80 (edF rv av P fun _ => false)) 133)]) (U := [(k25, C jk25 57)]) (keeps_cons (b := k2) (by repeat (first | exact find_head | apply find_tail)) (by first | rfl) (keeps_cons (b := k3) (by repeat (first | exact find_head | apply find_tail)) (by first | rfl) (keeps_cons (b := k4) (by repeat (first | exact find_head | apply find_tail)) (by first | rfl) (keeps_cons (b := k8) (o' := C (arrL 80 (edF rv av P fun _ => false)) 133) (by repeat (first | exact find_head | apply find_tail)) (by first | rfl) ((by repeat (first | exact keeps_nil | exact keeps_self | exact keeps_swap | apply keeps_mv)))))))
    refine c_loop (α := RS) (fun s => cs.length - s.i) (fun s a w => (RI P cs Z s) ∧ Sl 55 ([(29, .int .i64 (s.i : Int)), (9, s.uv)] ++ KS0) a ∧ Has _ w0 ([(k2, C (arrL 64 (nvF rv av P)) 33), (k3, C [.int .u32 idv, .slice p cs.length cap] 37), (k4, C (arrL 64 (nvF nilV nilV pz)) 33), (k8, C (arrL 80 (edF s.rv s.av s.P s.ow)) 133)] ++ (HS0 ++ s.tail)) w) ⟨0, rv, av, P, fun _ => false, fun _ => [], .slice (some ⟨k25, 0, none⟩) 0 cs.length, [], [(k25, C jk25 57)]⟩ ⟨⟨Nat.zero_le _, rfl, hP, EdI.start hN, rfl, (fun c hc => by cases hc), .inr ⟨k25, cs.length, jk25, rfl, rfl, (show (chs [] ++ jk25).length = cs.length * 12 from hjk25), Nat.zero_le _, rfl⟩⟩, hl.addE (t := 29) (hl.addE (t := 9) (hk) rfl (by first | rfl)) rfl (by first | rfl), hh2⟩ ?_
    clear hk hh2 hl hh a w
    intro s a w hI
    obtain ⟨hI, hl, hh⟩ := hI
    subst hKS0; subst hHS0
    simp only [List.cons_append, List.nil_append, List.append_nil] at hl hh
    have hone : s.uv.oneCell' = true := hI.row.one
    unfold RS.tail at hh
    refine c_seq ?_
    refine c_region ?_
    refine wl (wl_val hl rfl trivial (r_lss hl rfl rfl) ?_)
    clear hl a; intro a hl
    refine w_nil ?_
    have hl2 := hl.add (t := 2) (hl.add (t := 4) (hl.add (t := 8) (hl.add (t := 9) (hl.add (t := 27) (hl.add (t := 28) (hl.add (t := 29) (hl.add (t := 30) (hl.nil) rfl) rfl) rfl) rfl) rfl) rfl) rfl) rfl; clear hl; have hl := hl2; clear hl2
    refine then_normal ?_
    refine c_seq ?_
    refine c_cond hl rfl ?_ ?_
    · intro hc1
      try simp only [decide_eq_true_eq, decide_eq_false_iff_not, Bool.not_eq_true', Bool.not_eq_false', Bool.not_eq_true, Bool.not_eq_false, Bool.and_eq_true, Bool.or_eq_true, Bool.and_eq_false_iff, Bool.or_eq_false_iff, Bool.not_not, ne_eq, Int.not_lt, Int.not_le, Decidable.not_not, beq_iff_eq, bne_iff_ne] at hc1
      obtain ⟨c, hcat⟩ : ∃ c, cs[s.i]? = some c := ⟨_, List.getElem?_eq_getElem (by omega)⟩
      obtain ⟨b, junk, rfl, hjl, hjc, rfl⟩ := row_pos hR (by omega)
      have hm := hpre _ _ (hEc _ (List.mem_singleton.2 rfl))
      have hrowi := chs_at hcat junk
      have hcok := hok c (List.mem_of_getElem? hcat)
      have hck0 := hchk.2 c (List.mem_of_getElem? hcat)
      obtain ⟨d, hdv⟩ := Int.eq_ofNat_of_zero_le hcok.dv.1
      have hd : d < 16 := by have := (ck_facts hcok hck0).2.1; omega
      have hfr : ∀ x, x ∈ Z → x.1 < w0.heap.size := fun x hx => (Array.getElem?_eq_some_iff.1 (hpre _ _ hx)).1
      have hfo := fun b o m => (hh.own b o m).resolve_left (by simp)
      obtain ⟨Zd, hDI, hZs⟩ := hI.ed.dev (eb := k8) hd (fun x hx e => by have h1 := hfr x hx; have h2 := hfo k8 _ (Find.mem (by repeat (first | exact find_head | apply find_tail))); omega)
      have hZD : ∀ x, x ∈ Zd → x.1 ∉ ((k8, C (arrL 80 (edF s.rv s.av s.P s.ow)) 133) :: s.f d).map Prod.fst := fun x hx hc => by
        have h1 := hfr x (hZs x hx)
        obtain ⟨⟨b2, o2⟩, hy, e⟩ := List.mem_map.1 hc
        have h2 := hfo b2 o2 (by rcases List.mem_cons.1 hy with h | h; (rw [h]; simp); (have := tab_mem hd h; simp [this]))
        simp only at e; omega
      obtain ⟨ckd, cdv, cpr, cix, cup, cra, crl, cvia, cpm, cda, cdl, ccl⟩ := c
      simp only [Ch.vals] at hrowi
      refine wp_skip ?_
      refine then_normal ?_
      refine c_seq ?_
      refine wp_block ?_
      refine c_seq ?_
      refine c_region ?_
      refine wl (wl_val hl rfl trivial (r_move hl rfl) ?_)
      clear hl a; intro a hl
      refine wl (wl_val hl rfl trivial (r_indexS hl rfl rfl slc35 (by omega) (by omega) (by first | (simp only [Int.reduceToNat]; rfl) | exact toNat_add1 _ | exact toNat_add2 _ _ | exact toNat_emod _ _ | exact Int.toNat_natCast _ | rfl)) ?_)
      clear hl a; intro a hl
      first | refine wl (w_loadA hl hh rfl trivial agg57 rfl (by repeat (first | exact find_head | apply find_tail)) (by first | (simp only [List.getElem?_cons_zero, List.getElem?_cons_succ, Value.cells, List.take_zero, List.take_succ_cons, List.take_nil, List.drop_zero, List.drop_succ_cons, List.drop_nil, List.length_cons, List.length_nil, List.cons_append, List.nil_append, List.append_nil, Nat.zero_add, Nat.add_zero, Nat.reduceAdd, Nat.reduceBEq, Nat.reduceEqDiff, Nat.ble, BEq.rfl, Bool.and_true, Bool.and_self, cond_true, beq_self_eq_true]; rfl)) (by first | rfl | (simp; done)) ?_) | refine wl (w_loadRA hl hh rfl trivial agg57 rfl hm (by simp) hrowi rfl ?_)
      clear hl a; intro a hl
      refine wl (w_alloc hl hh rfl trivial zero57 rfl ?_)
      clear hl hh a w; intro k11 a w hl hh
      refine wl (wl_val hl rfl trivial (r_assign hl rfl) ?_)
      clear hl a; intro a hl
      refine wl (w_storeA hl hh trivial agg57 rfl rfl (by repeat (first | exact find_head | apply find_tail)) (by first | rfl | (simp; done)) (by first | (simp; done) | (simp; omega)) (by first | rfl | (simp; done) | exact nv_one hN.one) (by first | (simp only [setL, List.getElem?_cons_zero, List.getElem?_cons_succ, Value.cells, List.take_zero, List.take_succ_cons, List.take_nil, List.drop_zero, List.drop_succ_cons, List.drop_nil, List.length_cons, List.length_nil, List.cons_append, List.nil_append, List.append_nil, Nat.zero_add, Nat.add_zero, Nat.reduceAdd, Nat.reduceBEq, Nat.reduceEqDiff, Nat.ble, BEq.rfl, Bool.and_true, Bool.and_self, cond_true, beq_self_eq_true]; rfl)) ?_)
      clear hh w; intro w hh
      refine w_nil ?_
      have hl2 := hl.add (t := 2) (hl.add (t := 4) (hl.add (t := 8) (hl.add (t := 9) (hl.add (t := 10) (hl.add (t := 11) (hl.add (t := 27) (hl.add (t := 28) (hl.add (t := 29) (hl.nil) rfl) rfl) rfl) rfl) rfl) rfl) rfl) rfl) rfl; clear hl; have hl := hl2; clear hl2
      refine then_normal ?_
      refine c_seq ?_
      refine c_region ?_
      first | refine wl (w_loadA hl hh rfl trivial agg57 rfl (by repeat (first | exact find_head | apply find_tail)) (by first | (simp only [List.getElem?_cons_zero, List.getElem?_cons_succ, Value.cells, List.take_zero, List.take_succ_cons, List.take_nil, List.drop_zero, List.drop_succ_cons, List.drop_nil, List.length_cons, List.length_nil, List.cons_append, List.nil_append, List.append_nil, Nat.zero_add, Nat.add_zero, Nat.reduceAdd, Nat.reduceBEq, Nat.reduceEqDiff, Nat.ble, BEq.rfl, Bool.and_true, Bool.and_self, cond_true, beq_self_eq_true]; rfl)) (by first | rfl | (simp; done)) ?_) | refine wl (w_loadRA hl hh rfl trivial agg57 rfl hm (by simp) hrowi rfl ?_)
      clear hl a; intro a hl
      replace hh := has_pull (A := [_, _, _, _, _]) hd hh
      simp only [List.cons_append, List.nil_append] at hh
      refine wl (w_call hl hh rfl trivial rfl cal58 rfl (do_spec ⟨ckd, cdv, cpr, cix, cup, cra, crl, cvia, cpm, cda, cdl, ccl⟩ hcok hck0 k8 d hdv s.rv s.av s.P s.ow Zd (s.f d) hI.ok hDI hZD) (by repeat (first | exact keeps_nil | apply keeps_cons (by repeat (first | exact find_head | apply find_tail)) (by first  | rfl) | exact keeps_self | exact keeps_left | exact keeps_right | exact keeps_swap | apply keeps_mv)) (mem_keep hh (fun b o m => hpre b o (hZs _ m))) ?_)
      clear hl hh a w; intro vc Fc a w hR hl hh
      obtain ⟨rv', av', Er, Ea, hRr, hRa, rfl, X, hX, rfl⟩ := hR
      try simp only [List.cons_append, List.nil_append] at hh
      replace hh := has_put (l := [_, _, _, _]) hd hh
      simp only [List.cons_append, List.nil_append] at hh
      have hed := hI.ed.next hdv hRr hRa hX
      obtain ⟨hP1, huok⟩ := hI.ok.doP hcok hck0
      have hstn := fun h0 => steps_next hcat hI.st h0
      rcases hdo : doP s.P ⟨ckd, cdv, cpr, cix, cup, cra, crl, cvia, cpm, cda, cdl, ccl⟩ with ⟨P1, ⟨ukd, udv, upr, uix, uup, ura, url, uvia, upm, uda, udl, ucl⟩, code1⟩
      rw [hdo] at hl hh hed hP1 huok hstn hRr hRa
      simp only [Ch.vals] at hl hh hed hP1 huok hstn hRr hRa
      refine wl (wl_val hl rfl trivial (r_move hl rfl) ?_)
      clear hl a; intro a hl
      refine wl (wl_val hl rfl trivial (r_extract hl rfl (by simp only [List.getElem?_toArray, List.getElem?_cons_zero, List.getElem?_cons_succ]; rfl)) ?_)
      clear hl a; intro a hl
      refine wl (wl_val hl rfl trivial (r_extract hl rfl (by simp only [List.getElem?_toArray, List.getElem?_cons_zero, List.getElem?_cons_succ]; rfl)) ?_)
      clear hl a; intro a hl
      refine wl (w_alloc hl hh rfl trivial zero57 rfl ?_)
      clear hl hh a w; intro k12 a w hl hh
      refine wl (w_storeA hl hh trivial agg57 rfl rfl (by repeat (first | exact find_head | apply find_tail)) (by first | rfl | (simp; done)) (by first | (simp; done) | (simp; omega)) (by first | rfl | (simp; done) | exact nv_one hN.one) (by first | (simp only [setL, List.getElem?_cons_zero, List.getElem?_cons_succ, Value.cells, List.take_zero, List.take_succ_cons, List.take_nil, List.drop_zero, List.drop_succ_cons, List.drop_nil, List.length_cons, List.length_nil, List.cons_append, List.nil_append, List.append_nil, Nat.zero_add, Nat.add_zero, Nat.reduceAdd, Nat.reduceBEq, Nat.reduceEqDiff, Nat.ble, BEq.rfl, Bool.and_true, Bool.and_self, cond_true, beq_self_eq_true]; rfl)) ?_)
      clear hh w; intro w hh
      refine wl (wl_val hl rfl trivial (r_assign hl rfl) ?_)
      clear hl a; intro a hl
      refine w_nil ?_
      have hl2 := hl.add (t := 2) (hl.add (t := 4) (hl.add (t := 8) (hl.add (t := 9) (hl.add (t := 10) (hl.add (t := 12) (hl.add (t := 13) (hl.add (t := 27) (hl.add (t := 28) (hl.add (t := 29) (hl.nil) rfl) rfl) rfl) rfl) rfl) rfl) rfl) rfl) rfl) rfl; clear hl; have hl := hl2; clear hl2
      refine then_normal ?_
      refine c_seq ?_
      refine c_seq ?_
      refine c_region ?_
      refine wl (wl_val hl rfl trivial (r_move hl rfl) ?_)
      clear hl a; intro a hl
      refine wl (wl_val hl rfl trivial (r_neq hl rfl rfl) ?_)
      clear hl a; intro a hl
      refine w_nil ?_
      have hl2 := hl.add (t := 2) (hl.add (t := 4) (hl.add (t := 8) (hl.add (t := 9) (hl.add (t := 10) (hl.add (t := 12) (hl.add (t := 13) (hl.add (t := 27) (hl.add (t := 28) (hl.add (t := 29) (hl.add (t := 40) (hl.nil) rfl) rfl) rfl) rfl) rfl) rfl) rfl) rfl) rfl) rfl) rfl; clear hl; have hl := hl2; clear hl2
      refine then_normal ?_
      refine c_cond hl rfl ?_ ?_
      · intro hc2
        try simp only [decide_eq_true_eq, decide_eq_false_iff_not, Bool.not_eq_true', Bool.not_eq_false', Bool.not_eq_true, Bool.not_eq_false, Bool.and_eq_true, Bool.or_eq_true, Bool.and_eq_false_iff, Bool.or_eq_false_iff, Bool.not_not, ne_eq, Int.not_lt, Int.not_le, Decidable.not_not, beq_iff_eq, bne_iff_ne] at hc2
        refine c_seq ?_
        refine c_region ?_
        first | refine wl (w_loadA hl hh rfl trivial agg33 rfl (by repeat (first | exact find_head | apply find_tail)) (by first | exact whole _ _ | exact ed_take _ _ _ _) (by rw [arrL_length]) ?_) | refine wl (w_loadRA hl hh rfl trivial agg33 rfl hm (by simp) hrowi rfl ?_)
        clear hl a; intro a hl
        refine wl (wl_val hl rfl trivial (r_move hl rfl) ?_)
        clear hl a; intro a hl
        refine wl (wl_val hl rfl trivial (r_move hl rfl) ?_)
        clear hl a; intro a hl
        refine wl (wl_val hl rfl trivial (r_build hl rfl zero79 bld79 (by simp only [fillL, setL, List.getElem?_cons_zero, List.getElem?_cons_succ, Value.cells, List.take_zero, List.take_succ_cons, List.take_nil, List.drop_zero, List.drop_succ_cons, List.drop_nil, List.length_cons, List.length_nil, List.cons_append, List.nil_append, List.append_nil, Nat.zero_add, Nat.add_zero, Nat.reduceAdd, Nat.reduceBEq, Nat.reduceEqDiff, Nat.ble, BEq.rfl, Bool.and_true, Bool.and_self, cond_true, beq_self_eq_true]; rfl)) ?_)
        clear hl a; intro a hl
        refine wl (w_box hl hh rfl trivial rfl rfl ?_)
        clear hl hh a w; intro k45 a w hl hh
        refine wl (wl_val hl rfl trivial (r_makeInterface hl rfl conc77) ?_)
        clear hl a; intro a hl
        refine wl (w_storeA hl hh trivial agg33 rfl rfl (by repeat (first | exact find_head | apply find_tail)) (by rw [arrL_length]) (by rw [arrL_length]; omega) (by first | exact nv_one (by assumption) | exact nv_one hN.one | exact nv_one hI.ed.one) (by exact setw _ _ _) ?_)
        clear hh w; intro w hh
        refine wl (wl_val hl rfl trivial (r_assign hl rfl) ?_)
        clear hl a; intro a hl
        refine wl (wl_val hl rfl trivial (r_assign hl rfl) ?_)
        clear hl a; intro a hl
        refine w_nil ?_
        have hl2 := hl.add (t := 4) (hl.add (t := 5) (hl.add (t := 6) (hl.nil) rfl) rfl) rfl; clear hl; have hl := hl2; clear hl2
        refine then_normal ?_
        refine wp_ret ?_
        refine then_ret ?_
        refine blk_ret ?_
        refine then_ret ?_
        refine then_ret ?_
        refine blk_ret ?_
        refine then_ret ?_
        refine f_retCTT (F' := [(k45, C [.int .u8 code1, .int .i64 s.i] 79)]) hl hh rfl rfl agg33 (by repeat (first | exact find_head | apply find_tail)) (by first | rfl | exact arrL_length _ _ | (simp; done)) rfl rfl (by repeat (first | exact keeps_nil | apply keeps_cons (by repeat (first | exact find_head | apply find_tail)) (by first  | rfl) | exact keeps_self | exact keeps_left | exact keeps_right | exact keeps_swap | apply keeps_mv)) ?_
        exact .inr ⟨k45, _, _, .inr ⟨hchk, s.i, _, s.P, s.us, rfl, hcat, hI.st, by rw [hdo], by omega⟩, rfl, rfl⟩
      · intro hc2
        try simp only [decide_eq_true_eq, decide_eq_false_iff_not, Bool.not_eq_true', Bool.not_eq_false', Bool.not_eq_true, Bool.not_eq_false, Bool.and_eq_true, Bool.or_eq_true, Bool.and_eq_false_iff, Bool.or_eq_false_iff, Bool.not_not, ne_eq, Int.not_lt, Int.not_le, Decidable.not_not, beq_iff_eq, bne_iff_ne] at hc2
        refine wp_skip ?_
        refine then_normal ?_
        refine c_region ?_
        refine wl (wl_val hl rfl trivial (r_move hl rfl) ?_)
        clear hl a; intro a hl
        first | refine wl (w_loadA hl hh rfl trivial agg57 rfl (by repeat (first | exact find_head | apply find_tail)) (by first | (simp only [List.getElem?_cons_zero, List.getElem?_cons_succ, Value.cells, List.take_zero, List.take_succ_cons, List.take_nil, List.drop_zero, List.drop_succ_cons, List.drop_nil, List.length_cons, List.length_nil, List.cons_append, List.nil_append, List.append_nil, Nat.zero_add, Nat.add_zero, Nat.reduceAdd, Nat.reduceBEq, Nat.reduceEqDiff, Nat.ble, BEq.rfl, Bool.and_true, Bool.and_self, cond_true, beq_self_eq_true]; rfl)) (by first | rfl | (simp; done)) ?_) | refine wl (w_loadRA hl hh rfl trivial agg57 rfl hm (by simp) hrowi rfl ?_)
        clear hl a; intro a hl
        refine wl (w_buildSlice hl hh rfl trivial app35 zero57 rfl rfl rfl rfl rfl (by simp only [fillL, arrPl, List.range_succ, List.range_zero, List.map_cons, List.map_nil, List.map_append, List.nil_append, List.replicate_succ, List.replicate_zero, List.flatten_cons, List.flatten_nil, Nat.zero_mul, Nat.mul_one, Nat.one_mul, Nat.reduceMul, setL, List.getElem?_cons_zero, List.getElem?_cons_succ, Value.cells, List.take_zero, List.take_succ_cons, List.take_nil, List.drop_zero, List.drop_succ_cons, List.drop_nil, List.length_cons, List.length_nil, List.cons_append, List.nil_append, List.append_nil, Nat.zero_add, Nat.add_zero, Nat.reduceAdd, Nat.reduceBEq, Nat.reduceEqDiff, Nat.ble, BEq.rfl, Bool.and_true, Bool.and_self, cond_true, beq_self_eq_true]; rfl) ?_)
        clear hl hh a w; intro k49 a w hl hh
        refine wl (w_append (news := [.int .u8 ukd, .int .u8 udv, .int .u8 upr, .int .u8 uix, .bool uup, .int .u8 ura, .int .u8 url, .int .u8 uvia, .bool upm, .int .u8 uda, .int .u8 udl, .int .u8 ucl]) hl hh rfl trivial app35 rfl rfl rfl hI.row (by repeat (first | exact keeps_left | apply keeps_mv)) (hh.mem _ _ (Find.mem (by repeat (first | exact find_head | apply find_tail)))) rfl rfl rfl (by omega) (by rw [hI.ul]; omega) (by rw [hI.ul]; omega) (by decide) ?_)
        clear hl hh a w; intro rv2 E2 a w hR2 hl hh
        have hh3 := hh.comm; clear hh; have hh := hh3; clear hh3
        simp only [List.cons_append, List.nil_append] at hh
        refine wl (wl_val hl rfl trivial (r_assign hl rfl) ?_)
        clear hl a; intro a hl
        refine w_nil ?_
        have hl2 := hl.add (t := 2) (hl.add (t := 4) (hl.add (t := 8) (hl.add (t := 9) (hl.add (t := 27) (hl.add (t := 28) (hl.add (t := 29) (hl.nil) rfl) rfl) rfl) rfl) rfl) rfl) rfl; clear hl; have hl := hl2; clear hl2
        refine blk_normal ?_
        refine then_normal ?_
        refine c_region ?_
        first | refine wl (wl_val hl rfl trivial (r_add hl rfl rfl (by simp only [Fits]; omega)) ?_) | refine wl (wl_val hl rfl trivial (r_addW hl rfl rfl) ?_)
        clear hl a; intro a hl
        refine wl (wl_val hl rfl trivial (r_move hl rfl) ?_)
        clear hl a; intro a hl
        refine w_nil ?_
        have hl2 := hl.add (t := 2) (hl.add (t := 4) (hl.add (t := 8) (hl.add (t := 9) (hl.add (t := 27) (hl.add (t := 28) (hl.add (t := 29) (hl.nil) rfl) rfl) rfl) rfl) rfl) rfl) rfl; clear hl; have hl := hl2; clear hl2
        refine then_normal ?_
        refine ⟨⟨s.i + 1, upd s.rv d rv', upd s.av d av', P1, upd s.ow d true, upd s.f d X, rv2, s.us ++ [⟨ukd, udv, upr, uix, uup, ura, url, uvia, upm, uda, udl, ucl⟩], E2⟩, (by show cs.length - (s.i + 1) < cs.length - s.i; omega), ⟨by show s.i + 1 ≤ cs.length; omega, hstn (by first | rfl | omega), hP1, hed, by simp [hI.ul], fun c hc => by rcases List.mem_append.1 hc with h | h; exact hI.uok c h; (rw [List.mem_singleton] at h; subst h; exact huok), by show Row rv2 (s.us ++ [_]).length _ _ _ _; rw [List.length_append, chs_snoc]; exact hR2⟩, hl.addE (t := 29) (hl.addE (t := 9) (hl.addE (t := 2) (hl.addE (t := 4) (hl.addE (t := 8) (hl.addE (t := 27) (hl.addE (t := 28) (hl.nil) rfl (by first | rfl | rfl)) rfl (by first | rfl | rfl)) rfl (by first | rfl | rfl)) rfl (by first | rfl | rfl)) rfl (by first | rfl | rfl)) rfl (by first | rfl | rfl)) rfl (by first | rfl | rfl), hh.keep (by repeat (first | exact keeps_nil | apply keeps_cons (by repeat (first | exact find_head | apply find_tail)) (by first  | rfl) | exact keeps_self | exact keeps_left | exact keeps_right | exact keeps_swap | apply keeps_mv))⟩
    · intro hc1
      try simp only [decide_eq_true_eq, decide_eq_false_iff_not, Bool.not_eq_true', Bool.not_eq_false', Bool.not_eq_true, Bool.not_eq_false, Bool.and_eq_true, Bool.or_eq_true, Bool.and_eq_false_iff, Bool.or_eq_false_iff, Bool.not_not, ne_eq, Int.not_lt, Int.not_le, Decidable.not_not, beq_iff_eq, bne_iff_ne] at hc1
      refine wp_exit ?_
      refine then_exit ?_
      refine then_exit ?_
      refine blk_exit ?_
      refine then_normal ?_
      refine c_seq ?_
      refine c_region ?_
      refine wl (wl_val hl rfl trivial (r_field hl rfl fld133_0) ?_)
      clear hl a; intro a hl
      first | refine wl (w_loadA hl hh rfl trivial agg33 rfl (by repeat (first | exact find_head | apply find_tail)) (by first | exact whole _ _ | exact ed_take _ _ _ _) (by rw [arrL_length]) ?_) | refine wl (w_loadRA hl hh rfl trivial agg33 rfl hm (by simp) hrowi rfl ?_)
      clear hl a; intro a hl
      refine wl (wl_val hl rfl trivial (r_move hl rfl) ?_)
      clear hl a; intro a hl
      refine wl (w_storeA hl hh trivial agg33 rfl rfl (by repeat (first | exact find_head | apply find_tail)) (by rw [arrL_length]) (by rw [arrL_length]; omega) (by first | exact nv_one (by assumption) | exact nv_one hN.one | exact nv_one hI.ed.one) (by exact setw _ _ _) ?_)
      clear hh w; intro w hh
      refine wl (wl_val hl rfl trivial (r_assign hl rfl) ?_)
      clear hl a; intro a hl
      refine wl (wl_val hl rfl trivial (r_assign hl rfl) ?_)
      clear hl a; intro a hl
      refine w_nil ?_
      have hl2 := hl.add (t := 4) (hl.add (t := 5) (hl.add (t := 6) (hl.nil) rfl) rfl) rfl; clear hl; have hl := hl2; clear hl2
      refine then_normal ?_
      refine wp_ret ?_
      refine f_retCTT (F' := s.Eu ++ tabX s.f) hl hh rfl rfl agg33 (by repeat (first | exact find_head | apply find_tail)) (by first | rfl | exact arrL_length _ _ | (simp; done)) rfl rfl (by repeat (first | exact keeps_nil | apply keeps_cons (by repeat (first | exact find_head | apply find_tail)) (by first  | rfl) | exact keeps_self | exact keeps_left | exact keeps_right | exact keeps_swap | apply keeps_mv)) ?_
      exact .inl ⟨s.P, s.us, s.rv, s.av, s.uv, s.Eu, tabX s.f, hchk, by have := hI.st; rw [List.take_of_length_le (by omega)] at this; exact this, by have := hI.ul; have := hI.hi; omega, hI.uok, hI.ok, hI.ed.net, hI.row, rfl, rfl⟩
  ·
    try simp only [List.cons_append, List.nil_append, List.append_nil] at hh
    refine wl (wl_val hl rfl trivial (r_assign hl rfl) ?_)
    clear hl a; intro a hl
    refine w_nil ?_
    have hl2 := hl.add (t := 2) (hl.add (t := 3) (hl.add (t := 4) (hl.add (t := 7) (hl.nil) rfl) rfl) rfl) rfl; clear hl; have hl := hl2; clear hl2
    refine then_normal ?_
    refine c_seq ?_
    refine c_region ?_
    refine wl (wl_val hl rfl trivial (r_move hl rfl) ?_)
    clear hl a; intro a hl
    first | refine wl (wl_val hl rfl trivial (r_neq_ifcN hl rfl ifc39) ?_) | refine wl (wl_val hl rfl trivial (r_neq_ifcS hl rfl ifc39) ?_)
    clear hl a; intro a hl
    refine w_nil ?_
    have hl2 := hl.add (t := 2) (hl.add (t := 3) (hl.add (t := 4) (hl.add (t := 7) (hl.add (t := 17) (hl.nil) rfl) rfl) rfl) rfl) rfl; clear hl; have hl := hl2; clear hl2
    refine then_normal ?_
    refine c_condT hl rfl ?_
    refine c_seq ?_
    refine c_region ?_
    first | refine wl (w_loadA hl hh rfl trivial agg33 rfl (by repeat (first | exact find_head | apply find_tail)) (by first | exact whole _ _ | exact ed_take _ _ _ _) (by rw [arrL_length]) ?_) | refine wl (w_loadRA hl hh rfl trivial agg33 rfl hm (by simp) hrowi rfl ?_)
    clear hl a; intro a hl
    refine wl (wl_val hl rfl trivial (r_move hl rfl) ?_)
    clear hl a; intro a hl
    refine wl (w_storeA hl hh trivial agg33 rfl rfl (by repeat (first | exact find_head | apply find_tail)) (by rw [arrL_length]) (by rw [arrL_length]; omega) (by first | exact nv_one (by assumption) | exact nv_one hN.one | exact nv_one hI.ed.one) (by exact setw _ _ _) ?_)
    clear hh w; intro w hh
    refine wl (wl_val hl rfl trivial (r_assign hl rfl) ?_)
    clear hl a; intro a hl
    refine wl (wl_val hl rfl trivial (r_assign hl rfl) ?_)
    clear hl a; intro a hl
    refine w_nil ?_
    have hl2 := hl.add (t := 4) (hl.add (t := 5) (hl.add (t := 6) (hl.nil) rfl) rfl) rfl; clear hl; have hl := hl2; clear hl2
    refine then_normal ?_
    refine wp_ret ?_
    refine then_ret ?_
    refine f_retCTT (F' := [(k, C [.int .u8 code, .int .i64 pos] 79)]) hl hh rfl rfl agg33 (by repeat (first | exact find_head | apply find_tail)) (by first | rfl | exact arrL_length _ _ | (simp; done)) rfl rfl (by repeat (first | exact keeps_nil | apply keeps_cons (by repeat (first | exact find_head | apply find_tail)) (by first  | rfl) | exact keeps_self | exact keeps_left | exact keeps_right | exact keeps_swap | apply keeps_mv)) ?_
    exact .inr ⟨k, code, pos, .inl ⟨hchk, hc1, hc2⟩, rfl, rfl⟩
end Go.Proofs.Qxb6500907a

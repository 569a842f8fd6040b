import Derived.Test.Qxb6500912aGreatDoorA8
namespace Go.Proofs.Qxb6500912aGreatDoor
open Go.Eng
set_option linter.unusedVariables false
set_option linter.unusedSimpArgs false
theorem cal67 : callable Tryz.prog 67 = true := by kernel_rfl
theorem zero29 : zeroOk Tryz.prog 29 (.int .u32 0) := by unfold zeroOk; kernel_rfl
theorem cal54 : callable Tryz.prog 54 = true := by kernel_rfl
theorem agg93 : aggOk Tryz.prog 93 4 = true := by kernel_rfl
theorem fld93_2 : fieldOk Tryz.prog 93 2 2 = true := by kernel_rfl
theorem fld93_1 : fieldOk Tryz.prog 93 1 1 = true := by kernel_rfl
theorem fld93_0 : fieldOk Tryz.prog 93 0 0 = true := by kernel_rfl
/-! ## ranging over the holes -/
theorem spy_mono {P : Program} {l : Nat} {args : Array Value} {Pre : World → Prop} {F : List (Nat × Obj)} {R R' : Value → List (Nat × Obj) → Prop} (h : SpY P l args Pre F R) (hr : ∀ v F', R v F' → R' v F') : SpY P l args Pre F R' := fun w h1 h2 h3 => by
  obtain ⟨fn, tmps, assign, body, h4, h5⟩ := h w h1 h2 h3
  refine ⟨fn, tmps, assign, body, h4, h5.mono fun e w' he => ?_⟩
  cases e with
  | returned v => obtain ⟨F', h6, h7⟩ := he; exact ⟨F', hr v F' h6, h7⟩
  | panicked c => exact he
  | outgrown => exact he
theorem fresh_not {w0 w : World} {F : List (Nat × Obj)} (hh : Has [] w0 F w) {x : Nat × Obj} (hx : w0.heap[x.1]? = some x.2) {b : Nat} (hb : b ∈ F.map Prod.fst) : x.1 ≠ b := by
  obtain ⟨o, ho⟩ := mem_map_fst hb
  rcases hh.own b o ho with h | h
  · cases h
  · have := (Array.getElem?_eq_some_iff.1 hx).1; omega
theorem range_holes {Z : List (Nat × Obj)} {cp : Nat} {s : CS} {sp : Option Addr} {bl : List (Int × Int)} (hs : Ok s) (hZ : CtlR Z cp s sp bl) {n p kb : Nat} {L : List (Nat × Value)} {a : Act} {w w0 : World} {F G : List (Nat × Obj)} {Q : Exit → Act → World → Prop} {g : Operand} {assign body : Code}
    (hl : Sl n L a) (hh : Has [] w0 F w) (hg : val L g = some (.func (.func 67) #[] #[.pointer (some ⟨kb, 0, none⟩)])) (hmZ : Mem Z w0) (hpn : Nat.blt p n = true)
    (Fc Fx : List Hole → List (Nat × Obj)) (Cont Stop : List Hole → Prop) (hC0 : Cont []) (ids : List Nat) (hids : ∀ pre, (Fc pre).map Prod.fst = ids) (hk : Keeps F (Fc []) G) (hkb : (kb, C [.pointer (some ⟨cp, 0, none⟩)] 24) ∈ G)
    (hround : ∀ (l : Nat) (lp : Loop) (pre : List Hole) (x : Hole) (w0' w : World) (a : Act), pre ++ [x] <+: holesP s bl → Cont pre → Mem Z w0' → Sl n ((p, .agg ⟨hoc x⟩) :: L) a → Has (l :: ids) w0' ((l, .loop lp) :: Fc pre) w → (∀ y, y ∈ Z → y.1 ∉ l :: ids) →
      assign.wpIn (Wr (some l)) 0 Tryz.prog (Exit.then (fun a1 w1 => ∃ F1, Has (l :: ids) w0' ((l, .loop lp) :: F1) w1 ∧ ∀ w2, Has (l :: ids) w0' ((l, .loop { lp with state := .busy }) :: F1) w2 →
        body.wpIn (Wr (some l)) 0 Tryz.prog (RndQ (l :: ids) w0' l lp (fun F' => Cont (pre ++ [x]) ∧ F' = Fc (pre ++ [x])) (fun F' => Stop (pre ++ [x]) ∧ F' = Fx (pre ++ [x]))) a1 w2) (fun _ _ _ => False)) a w)
    (hdone : ∀ (dm : Nat) (a4 : Act) (w4 : World), Cont (holesP s bl) → SlD [Go.Eng.mark dm] n L a4 → Has [] w0 ((dm, .deferred (some [])) :: (Fc (holesP s bl) ++ G)) w4 → Q .normal a4 w4)
    (hstop : ∀ (dm : Nat) (pre : List Hole) (x : Hole) (a4 : Act) (w4 : World), pre ++ [x] <+: holesP s bl → Stop (pre ++ [x]) → SlD [Go.Eng.mark dm] n L a4 → Has [] w0 ((dm, .deferred (some [])) :: (Fx (pre ++ [x]) ++ G)) w4 → Q .ret a4 w4) :
    (Code.rangeFunc g #[p] assign body).wpIn (Wr none) 0 Tryz.prog Q a w := by
  refine i_range hl hh hg cal67 fun fn dm l w1 hh1 => ?_
  generalize hlp : ({ state := .ready, pending := none, fn := fn, tmps := a.tmps, params := #[p], assign := assign, body := body, defers := dm } : Loop) = lp at hh1
  have hp : List.Perm ((l, Obj.loop lp) :: (dm, Obj.deferred (some [])) :: F) (((l, Obj.loop lp) :: Fc []) ++ ((dm, Obj.deferred (some [])) :: G)) :=
    List.Perm.cons _ ((List.Perm.cons _ hk.perm).trans List.perm_middle.symm)
  have hh2 := hh1.perm hp
  have hnd := hh2.nodup
  rw [List.map_append, List.nodup_append] at hnd
  have hdis : ∀ x, x ∈ Z → x.1 ∉ List.map Prod.fst ((l, Obj.loop lp) :: Fc []) := fun x hx hb => by
    have hb2 : x.1 ∈ List.map Prod.fst (((l, Obj.loop lp) :: Fc []) ++ ((dm, Obj.deferred (some [])) :: G)) := by rw [List.map_append]; exact List.mem_append_left _ hb
    exact fresh_not hh2 (x := x) (hmZ _ _ hx) hb2 rfl
  have hkD : kb ∉ List.map Prod.fst ((l, Obj.loop lp) :: Fc []) := fun hb =>
    hnd.2.2 kb hb kb (List.mem_map.2 ⟨_, List.mem_cons_of_mem _ hkb, rfl⟩) rfl
  have hy : ∀ pre x, pre ++ [x] <+: holesP s bl → Cont pre → SpY Tryz.prog l #[.agg ⟨hoc x⟩] (Mem Z) ((l, .loop lp) :: Fc pre) (fun v F' => (v = .bool true ∧ Cont (pre ++ [x]) ∧ F' = (l, .loop lp) :: Fc (pre ++ [x])) ∨ (v = .bool false ∧ Stop (pre ++ [x]) ∧ F' = (l, .loop { lp with state := .done, pending := some .ret }) :: Fx (pre ++ [x]))) := by
    intro pre x hpx hcp
    have hl' : Sl n L ⟨lp.tmps, []⟩ := ⟨by rw [← hlp]; exact hl.size, rfl, by rw [← hlp]; exact hl.get⟩
    have := spy_round (P := Tryz.prog) (l := l) (p := p) (n := n) (L := L) (lp := lp) (v := .agg ⟨hoc x⟩) (Fc := Fc pre) (A := fun F' => Cont (pre ++ [x]) ∧ F' = Fc (pre ++ [x])) (B := fun F' => Stop (pre ++ [x]) ∧ F' = Fx (pre ++ [x])) (Pre := Mem Z) (by rw [← hlp]) (by rw [← hlp]) hpn hl' (by
      intro w0' w a hpz hl2 hh3
      rw [hids pre] at hh3 ⊢
      have h9 := hround l lp pre x w0' w a hpx hcp hpz hl2 hh3 (fun y hy => by have := hdis y hy; rw [List.map_cons, hids []] at this; exact this)
      rw [← hlp] at h9 ⊢
      exact h9)
    refine spy_mono this fun v F' h => ?_
    rcases h with ⟨h1, F1, h2, h3⟩ | ⟨h1, F1, h2, h3⟩
    · exact .inl ⟨h1, h2.1, by rw [h3, h2.2, ← hlp]⟩
    · exact .inr ⟨h1, h2.1, by rw [h3, h2.2]⟩
  refine ⟨(l, .loop lp) :: Fc [], (dm, .deferred (some [])) :: G, _, _, holes1_spec cp s hs sp bl hZ kb l (fun pre => (l, .loop lp) :: Fc pre) (fun pre => (l, .loop { lp with state := .done, pending := some .ret }) :: Fx pre) Cont Stop hC0 hdis hkD hy, ⟨mem_keep hh1 hmZ, hh2.mem _ _ (List.mem_append_right _ (List.mem_cons_of_mem _ hkb))⟩, ⟨hp⟩, ?_⟩
  intro v F' w' hR hh4
  rcases hR.2 with ⟨hct, rfl⟩ | ⟨pre, x, h1, h2, rfl⟩
  · refine ⟨lp, Fc (holesP s bl) ++ ((dm, .deferred (some [])) :: G), find_head, (by rw [← hlp]; intro h; cases h), .inl ⟨by rw [← hlp], fun a4 w4 h5 h6 => hdone dm a4 w4 hct h5 (h6.perm List.perm_middle)⟩⟩
  · refine ⟨{ lp with state := .done, pending := some .ret }, Fx (pre ++ [x]) ++ ((dm, .deferred (some [])) :: G), find_head, (by intro h; cases h), .inr ⟨rfl, fun a4 w4 h5 h6 => hstop dm pre x a4 w4 h1 h2 h5 (h6.perm List.perm_middle)⟩⟩
/-! what is asked of the holes -/
def pipeStep (s : CS) (n : Int) (h : Hole) : Int :=
  let n1 := if h.lost = false then (n + (h.e - h.s) % 4294967296) % 4294967296 else n
  if lessP h.s s.high = true then (n1 + min ((s.high - h.s) % 4294967296) ((h.e - h.s) % 4294967296)) % 4294967296 else n1
def pipeH (s : CS) (l : List Hole) : Int := l.foldl (pipeStep s) 0
def pipeP (s : CS) (ns : Bool) (bl : List (Int × Int)) : Int :=
  if ns = true ∧ ¬ s.phase = 2 then (if s.phase = 1 then flightP s else flightP s - min (flightP s) (min s.dups (s.dupt - 1) * s.mss)) else pipeH s (holesP s bl)
theorem pipeH_snoc (s : CS) (l : List Hole) (h : Hole) : pipeH s (l ++ [h]) = pipeStep s (pipeH s l) h := by unfold pipeH; rw [List.foldl_append]; rfl
def pv1 (s : CS) (pre : List Hole) (x : Hole) : Int := if x.lost = false then (pipeH s pre + (x.e - x.s) % 4294967296) % 4294967296 else pipeH s pre
section pipe
variable {s : CS} {ns : Bool} {bl : List (Int × Int)} {pre : List Hole} {x : Hole}
theorem pipeT_1 (h1 : x.lost = false) : (pipeH s pre + (x.e - x.s) % 4294967296) % 4294967296 = pv1 s pre x := by unfold pv1; rw [if_pos h1]
theorem pipeT_2 (h1 : x.lost = true) : pipeH s pre = pv1 s pre x := by unfold pv1; rw [if_neg (by simp [h1])]
theorem pipeS_1 (h2 : lessP x.s s.high = true) : pipeH s (pre ++ [x]) = (pv1 s pre x + min ((s.high - x.s) % 4294967296) ((x.e - x.s) % 4294967296)) % 4294967296 := by
  rw [pipeH_snoc]; unfold pipeStep pv1; simp only [h2, if_true]
theorem pipeS_2 (h2 : lessP x.s s.high = false) : pipeH s (pre ++ [x]) = pv1 s pre x := by
  rw [pipeH_snoc]; unfold pipeStep pv1; simp [h2]
theorem pipeP_1 (h1 : ns = true) (h2 : ¬ s.phase = 2) (h3 : s.phase = 1) : flightP s = pipeP s ns bl := by unfold pipeP; rw [if_pos ⟨h1, h2⟩, if_pos h3]
theorem pipeP_2 (h1 : ns = true) (h2 : ¬ s.phase = 2) (h3 : ¬ s.phase = 1) : flightP s - min (flightP s) (min s.dups (s.dupt - 1) * s.mss) = pipeP s ns bl := by unfold pipeP; rw [if_pos ⟨h1, h2⟩, if_neg h3]
theorem pipeP_3 (h1 : ns = false) : pipeH s (holesP s bl) = pipeP s ns bl := by unfold pipeP; rw [if_neg (by simp [h1])]
theorem pipeP_4 (h1 : s.phase = 2) : pipeH s (holesP s bl) = pipeP s ns bl := by unfold pipeP; rw [if_neg (by simp [h1])]
end pipe


set_option maxHeartbeats 4000000 in
theorem pipe_spec {Z : List (Nat × Obj)} (cp : Nat) (s : CS) (hs : Ok s) (sp : Option Addr) (bl : List (Int × Int)) (hZ : CtlR Z cp s sp bl) : SpK Tryz.prog 35 #[.pointer (some ⟨cp, 0, none⟩)] (Mem Z) [] (fun v F' => v = .int .u32 (pipeP s sp.isNone bl) ∧ F' = []) := by
  refine f_enterM (args := [.pointer (some ⟨cp, 0, none⟩)]) Tryz.func35 rfl Tryz.ntmps35 rfl ?_
  intro w0 w a hpre hl hh
  have o1 := hs.init; have o2 := hs.maxc; have o3 := hs.bn; have o4 := hs.bd; have o5 := hs.abc; have o6 := hs.dupt; have o7 := hs.mss; have o8 := hs.cwnd; have o9 := hs.ssth; have o10 := hs.credit; have o11 := hs.una; have o12 := hs.nxt; have o13 := hs.phase; have o14 := hs.recov; have o15 := hs.high; have o16 := hs.dups; have o17 := flightP_U s
  have hm := hpre _ _ hZ.mem
  have hp := prod_bd (a := min s.dups (s.dupt - 1)) (b := s.mss) (A := 15) (B := 65535) (by omega) (by omega)
  simp only [slotsFrom, Nat.reduceAdd] at hl
  refine i_seq ?_
  refine i_region ?_
  refine wli nofun (fun _ _ h => h) (w_box hl hh rfl trivial rfl rfl ?_)
  clear hl hh a w; intro k1 a w hl hh
  refine wli nofun (fun _ _ h => h) (wl_val hl rfl trivial (r_assign hl rfl) ?_)
  clear hl a; intro a hl
  refine wi_nil ?_
  have hl2 := hl.add (t := 1) (hl.nil) rfl; clear hl; have hl := hl2; clear hl2
  refine then_normal ?_
  refine i_seq ?_
  refine i_seq ?_
  refine i_region ?_
  first | refine wli nofun (fun _ _ h => h) (w_load hl hh rfl trivial one24 rfl (by repeat (first | exact find_head | apply find_tail)) (by first | rfl) ?_) | refine wli nofun (fun _ _ h => h) (w_loadR hl hh rfl trivial one24 rfl hm (by simp) rfl ?_) | refine wli nofun (fun _ _ h => h) (w_loadR hl hh rfl trivial one24 rfl hm9 hcD9 rfl ?_)
  clear hl a; intro a hl
  refine wli nofun (fun _ _ h => h) (wl_val hl rfl trivial (r_nilCheck hl rfl) ?_)
  clear hl a; intro a hl
  refine wli nofun (fun _ _ h => h) (wl_val hl rfl trivial (r_field hl rfl fld66_2) ?_)
  clear hl a; intro a hl
  first | refine wli nofun (fun _ _ h => h) (w_load hl hh rfl trivial one64 rfl (by repeat (first | exact find_head | apply find_tail)) (by first | rfl) ?_) | refine wli nofun (fun _ _ h => h) (w_loadR hl hh rfl trivial one64 rfl hm (by simp) rfl ?_) | refine wli nofun (fun _ _ h => h) (w_loadR hl hh rfl trivial one64 rfl hm9 hcD9 rfl ?_)
  clear hl a; intro a hl
  refine wli nofun (fun _ _ h => h) (wl_val hl rfl trivial (r_eql_pointer hl rfl rfl ptr64) ?_)
  clear hl a; intro a hl
  refine wli nofun (fun _ _ h => h) (wl_val hl rfl trivial (r_move hl rfl) ?_)
  clear hl a; intro a hl
  refine sl_split (t := 11) hl rfl ?_ ?_
  · intro hg1; clear hl; intro hl
    try simp only [decide_eq_true_eq, decide_eq_false_iff_not, Bool.not_eq_true', Bool.not_eq_false', Bool.not_eq_true, Bool.not_eq_false, Bool.and_eq_true, Bool.or_eq_true, Bool.and_eq_false_iff, Bool.or_eq_false_iff, Bool.not_not, ne_eq, Int.not_lt, Int.not_le, Decidable.not_not, beq_iff_eq, bne_iff_ne] at hg1
    first | refine wli nofun (fun _ _ h => h) (w_load hl hh rfl ⟨_, _, rfl, rfl, rfl⟩ one24 rfl (by repeat (first | exact find_head | apply find_tail)) (by first | rfl) ?_) | refine wli nofun (fun _ _ h => h) (w_loadR hl hh rfl ⟨_, _, rfl, rfl, rfl⟩ one24 rfl hm (by simp) rfl ?_) | refine wli nofun (fun _ _ h => h) (w_loadR hl hh rfl ⟨_, _, rfl, rfl, rfl⟩ one24 rfl hm9 hcD9 rfl ?_)
    clear hl a; intro a hl
    refine wli nofun (fun _ _ h => h) (wl_val hl rfl ⟨_, _, rfl, rfl, rfl⟩ (r_nilCheck hl rfl) ?_)
    clear hl a; intro a hl
    refine wli nofun (fun _ _ h => h) (wl_val hl rfl ⟨_, _, rfl, rfl, rfl⟩ (r_field hl rfl fld66_8) ?_)
    clear hl a; intro a hl
    first | refine wli nofun (fun _ _ h => h) (w_load hl hh rfl ⟨_, _, rfl, rfl, rfl⟩ one59 rfl (by repeat (first | exact find_head | apply find_tail)) (by first | rfl) ?_) | refine wli nofun (fun _ _ h => h) (w_loadR hl hh rfl ⟨_, _, rfl, rfl, rfl⟩ one59 rfl hm (by simp) rfl ?_) | refine wli nofun (fun _ _ h => h) (w_loadR hl hh rfl ⟨_, _, rfl, rfl, rfl⟩ one59 rfl hm9 hcD9 rfl ?_)
    clear hl a; intro a hl
    refine wli nofun (fun _ _ h => h) (wl_val hl rfl ⟨_, _, rfl, rfl, rfl⟩ (r_neq hl rfl rfl) ?_)
    clear hl a; intro a hl
    refine wli nofun (fun _ _ h => h) (wl_val hl rfl trivial (r_pickT hl rfl rfl) ?_)
    clear hl a; intro a hl
    refine wi_nil ?_
    have hl2 := hl.add (t := 1) (hl.add (t := 17) (hl.nil) rfl) rfl; clear hl; have hl := hl2; clear hl2
    refine then_normal ?_
    refine i_cond hl rfl ?_ ?_
    · intro hc0
      try simp only [decide_eq_true_eq, decide_eq_false_iff_not, Bool.not_eq_true', Bool.not_eq_false', Bool.not_eq_true, Bool.not_eq_false, Bool.and_eq_true, Bool.or_eq_true, Bool.and_eq_false_iff, Bool.or_eq_false_iff, Bool.not_not, ne_eq, Int.not_lt, Int.not_le, Decidable.not_not, beq_iff_eq, bne_iff_ne] at hc0
      refine i_seq ?_
      refine i_region ?_
      first | refine wli nofun (fun _ _ h => h) (w_load hl hh rfl trivial one24 rfl (by repeat (first | exact find_head | apply find_tail)) (by first | rfl) ?_) | refine wli nofun (fun _ _ h => h) (w_loadR hl hh rfl trivial one24 rfl hm (by simp) rfl ?_) | refine wli nofun (fun _ _ h => h) (w_loadR hl hh rfl trivial one24 rfl hm9 hcD9 rfl ?_)
      clear hl a; intro a hl
      refine wli nofun (fun _ _ h => h) (w_call hl hh rfl trivial rfl cal33 rfl (flight_spec cp s sp) (by repeat (first | exact keeps_nil | apply keeps_cons (by repeat (first | exact find_head | apply find_tail)) (by first  | rfl) | exact keeps_self | exact keeps_left | exact keeps_right | exact keeps_swap | apply keeps_mv)) (heap_keep hh hm) ?_)
      clear hl hh a w; intro vc Fc a w hR hl hh
      obtain ⟨rfl, rfl⟩ := hR
      try simp only [List.cons_append, List.nil_append] at hh
      refine wli nofun (fun _ _ h => h) (wl_val hl rfl trivial (r_assign hl rfl) ?_)
      clear hl a; intro a hl
      refine wi_nil ?_
      have hl2 := hl.add (t := 1) (hl.add (t := 3) (hl.nil) rfl) rfl; clear hl; have hl := hl2; clear hl2
      refine then_normal ?_
      refine i_seq ?_
      refine i_seq ?_
      refine i_region ?_
      first | refine wli nofun (fun _ _ h => h) (w_load hl hh rfl trivial one24 rfl (by repeat (first | exact find_head | apply find_tail)) (by first | rfl) ?_) | refine wli nofun (fun _ _ h => h) (w_loadR hl hh rfl trivial one24 rfl hm (by simp) rfl ?_) | refine wli nofun (fun _ _ h => h) (w_loadR hl hh rfl trivial one24 rfl hm9 hcD9 rfl ?_)
      clear hl a; intro a hl
      refine wli nofun (fun _ _ h => h) (wl_val hl rfl trivial (r_nilCheck hl rfl) ?_)
      clear hl a; intro a hl
      refine wli nofun (fun _ _ h => h) (wl_val hl rfl trivial (r_field hl rfl fld66_8) ?_)
      clear hl a; intro a hl
      first | refine wli nofun (fun _ _ h => h) (w_load hl hh rfl trivial one59 rfl (by repeat (first | exact find_head | apply find_tail)) (by first | rfl) ?_) | refine wli nofun (fun _ _ h => h) (w_loadR hl hh rfl trivial one59 rfl hm (by simp) rfl ?_) | refine wli nofun (fun _ _ h => h) (w_loadR hl hh rfl trivial one59 rfl hm9 hcD9 rfl ?_)
      clear hl a; intro a hl
      refine wli nofun (fun _ _ h => h) (wl_val hl rfl trivial (r_eql hl rfl rfl) ?_)
      clear hl a; intro a hl
      refine wi_nil ?_
      have hl2 := hl.add (t := 1) (hl.add (t := 3) (hl.add (t := 24) (hl.nil) rfl) rfl) rfl; clear hl; have hl := hl2; clear hl2
      refine then_normal ?_
      refine i_cond hl rfl ?_ ?_
      · intro hc1
        try simp only [decide_eq_true_eq, decide_eq_false_iff_not, Bool.not_eq_true', Bool.not_eq_false', Bool.not_eq_true, Bool.not_eq_false, Bool.and_eq_true, Bool.or_eq_true, Bool.and_eq_false_iff, Bool.or_eq_false_iff, Bool.not_not, ne_eq, Int.not_lt, Int.not_le, Decidable.not_not, beq_iff_eq, bne_iff_ne] at hc1
        refine i_seq ?_
        refine i_region ?_
        refine wli nofun (fun _ _ h => h) (wl_val hl rfl trivial (r_move hl rfl) ?_)
        clear hl a; intro a hl
        refine wli nofun (fun _ _ h => h) (wl_val hl rfl trivial (r_assign hl rfl) ?_)
        clear hl a; intro a hl
        refine wi_nil ?_
        have hl2 := hl.add (t := 2) (hl.nil) rfl; clear hl; have hl := hl2; clear hl2
        refine then_normal ?_
        refine i_ret ?_
        refine then_ret ?_
        refine then_ret ?_
        refine m_ret (f_ret1 (F' := []) hl hh rfl rfl (by repeat (first | exact keeps_nil | apply keeps_cons (by repeat (first | exact find_head | apply find_tail)) (by first  | rfl) | exact keeps_self | exact keeps_left | exact keeps_right | exact keeps_swap | apply keeps_mv)) ?_)
        exact ⟨congrArg (Value.int .u32) (pipeP_1 (by assumption) (by assumption) (by assumption)), rfl⟩
      · intro hc1
        try simp only [decide_eq_true_eq, decide_eq_false_iff_not, Bool.not_eq_true', Bool.not_eq_false', Bool.not_eq_true, Bool.not_eq_false, Bool.and_eq_true, Bool.or_eq_true, Bool.and_eq_false_iff, Bool.or_eq_false_iff, Bool.not_not, ne_eq, Int.not_lt, Int.not_le, Decidable.not_not, beq_iff_eq, bne_iff_ne] at hc1
        refine i_skip ?_
        refine then_normal ?_
        refine i_seq ?_
        refine i_draw [(k1, C [.pointer (some ⟨cp, 0, none⟩)] 24), (cp, C (encC s sp) 66)] [19, 20] mixed (by kernel_rfl) (fun _ _ h => h) hh ?_
        clear hh w; intro w hh
        have hM : Mem [(k1, C [.pointer (some ⟨cp, 0, none⟩)] 24), (cp, C (encC s sp) 66)] w := (by (repeat (first | exact Mem.nil | refine Mem.consR hh (by assumption) (by simp) ?_ | refine Mem.cons hh.mem (by (repeat (first | exact find_head | apply find_tail)); done) ?_ | fail)); done)
        refine d_take (i := 0) hl rfl (by kernel_rfl) (by kernel_rfl) (by kernel_rfl) (by kernel_rfl) (by kernel_rfl) rfl trivial (fun _ _ _ h => h) hM (fun w hC => r_move hl rfl) rfl ?_
        clear hl a; intro a hl
        refine d_take (i := 1) hl rfl (by kernel_rfl) (by kernel_rfl) (by kernel_rfl) (by kernel_rfl) (by kernel_rfl) rfl trivial (fun _ _ _ h => h) hM (fun w hC => r_move hl rfl) rfl ?_
        clear hl a; intro a hl
        refine d_take (i := 2) hl rfl (by kernel_rfl) (by kernel_rfl) (by kernel_rfl) (by kernel_rfl) (by kernel_rfl) rfl trivial (fun _ _ _ h => h) hM (fun w hC => r_loadC hl rfl one24 hC (by repeat (first | exact find_head | apply find_tail)) (by first | rfl)) rfl ?_
        clear hl a; intro a hl
        refine d_take (i := 3) hl rfl (by kernel_rfl) (by kernel_rfl) (by kernel_rfl) (by kernel_rfl) (by kernel_rfl) rfl trivial (fun _ _ _ h => h) hM (fun w hC => r_nilCheck hl rfl) rfl ?_
        clear hl a; intro a hl
        refine d_take (i := 4) hl rfl (by kernel_rfl) (by kernel_rfl) (by kernel_rfl) (by kernel_rfl) (by kernel_rfl) rfl trivial (fun _ _ _ h => h) hM (fun w hC => r_field hl rfl fld66_11) rfl ?_
        clear hl a; intro a hl
        refine d_take (i := 5) hl rfl (by kernel_rfl) (by kernel_rfl) (by kernel_rfl) (by kernel_rfl) (by kernel_rfl) rfl trivial (fun _ _ _ h => h) hM (fun w hC => r_loadC hl rfl one29 hC (by repeat (first | exact find_head | apply find_tail)) (by first | rfl)) rfl ?_
        clear hl a; intro a hl
        refine d_take (i := 6) hl rfl (by kernel_rfl) (by kernel_rfl) (by kernel_rfl) (by kernel_rfl) (by kernel_rfl) rfl trivial (fun _ _ _ h => h) hM (fun w hC => r_loadC hl rfl one24 hC (by repeat (first | exact find_head | apply find_tail)) (by first | rfl)) rfl ?_
        clear hl a; intro a hl
        refine d_take (i := 7) hl rfl (by kernel_rfl) (by kernel_rfl) (by kernel_rfl) (by kernel_rfl) (by kernel_rfl) rfl trivial (fun _ _ _ h => h) hM (fun w hC => r_nilCheck hl rfl) rfl ?_
        clear hl a; intro a hl
        refine d_take (i := 8) hl rfl (by kernel_rfl) (by kernel_rfl) (by kernel_rfl) (by kernel_rfl) (by kernel_rfl) rfl trivial (fun _ _ _ h => h) hM (fun w hC => r_field hl rfl fld66_0) rfl ?_
        clear hl a; intro a hl
        refine d_take (i := 9) hl rfl (by kernel_rfl) (by kernel_rfl) (by kernel_rfl) (by kernel_rfl) (by kernel_rfl) rfl trivial (fun _ _ _ h => h) hM (fun w hC => r_field hl rfl fld31_5) rfl ?_
        clear hl a; intro a hl
        refine d_take (i := 10) hl rfl (by kernel_rfl) (by kernel_rfl) (by kernel_rfl) (by kernel_rfl) (by kernel_rfl) rfl trivial (fun _ _ _ h => h) hM (fun w hC => r_loadC hl rfl one29 hC (by repeat (first | exact find_head | apply find_tail)) (by first | rfl)) rfl ?_
        clear hl a; intro a hl
        first | refine d_take (i := 11) hl rfl (by kernel_rfl) (by kernel_rfl) (by kernel_rfl) (by kernel_rfl) (by kernel_rfl) rfl trivial (fun _ _ _ h => h) hM (fun w hC => r_sub hl rfl rfl (by simp only [Fits]; omega)) rfl ?_ | refine d_take (i := 11) hl rfl (by kernel_rfl) (by kernel_rfl) (by kernel_rfl) (by kernel_rfl) (by kernel_rfl) rfl trivial (fun _ _ _ h => h) hM (fun w hC => r_subM wm_u32 hl rfl rfl) rfl ?_
        clear hl a; intro a hl
        refine d_take (i := 12) hl rfl (by kernel_rfl) (by kernel_rfl) (by kernel_rfl) (by kernel_rfl) (by kernel_rfl) rfl trivial (fun _ _ _ h => h) hM (fun w hC => r_minI hl rfl rfl) rfl ?_
        clear hl a; intro a hl
        refine d_take (i := 13) hl rfl (by kernel_rfl) (by kernel_rfl) (by kernel_rfl) (by kernel_rfl) (by kernel_rfl) rfl trivial (fun _ _ _ h => h) hM (fun w hC => r_loadC hl rfl one24 hC (by repeat (first | exact find_head | apply find_tail)) (by first | rfl)) rfl ?_
        clear hl a; intro a hl
        refine d_take (i := 14) hl rfl (by kernel_rfl) (by kernel_rfl) (by kernel_rfl) (by kernel_rfl) (by kernel_rfl) rfl trivial (fun _ _ _ h => h) hM (fun w hC => r_nilCheck hl rfl) rfl ?_
        clear hl a; intro a hl
        refine d_take (i := 15) hl rfl (by kernel_rfl) (by kernel_rfl) (by kernel_rfl) (by kernel_rfl) (by kernel_rfl) rfl trivial (fun _ _ _ h => h) hM (fun w hC => r_field hl rfl fld66_1) rfl ?_
        clear hl a; intro a hl
        refine d_take (i := 16) hl rfl (by kernel_rfl) (by kernel_rfl) (by kernel_rfl) (by kernel_rfl) (by kernel_rfl) rfl trivial (fun _ _ _ h => h) hM (fun w hC => r_loadC hl rfl one29 hC (by repeat (first | exact find_head | apply find_tail)) (by first | rfl)) rfl ?_
        clear hl a; intro a hl
        first | refine d_take (i := 17) hl rfl (by kernel_rfl) (by kernel_rfl) (by kernel_rfl) (by kernel_rfl) (by kernel_rfl) rfl trivial (fun _ _ _ h => h) hM (fun w hC => r_mul hl rfl rfl (by simp only [Fits]; omega)) rfl ?_ | refine d_take (i := 17) hl rfl (by kernel_rfl) (by kernel_rfl) (by kernel_rfl) (by kernel_rfl) (by kernel_rfl) rfl trivial (fun _ _ _ h => h) hM (fun w hC => r_mulM wm_u32 hl rfl rfl) rfl ?_
        clear hl a; intro a hl
        refine d_take (i := 18) hl rfl (by kernel_rfl) (by kernel_rfl) (by kernel_rfl) (by kernel_rfl) (by kernel_rfl) rfl trivial (fun _ _ _ h => h) hM (fun w hC => r_minI hl rfl rfl) rfl ?_
        clear hl a; intro a hl
        first | refine d_takeL (i := 19) hl rfl (by kernel_rfl) (by kernel_rfl) (by kernel_rfl) (by kernel_rfl) (by kernel_rfl) rfl trivial (fun _ _ _ h => h) (fun w => r_sub hl rfl rfl (by simp only [Fits]; omega)) rfl ?_ | refine d_takeL (i := 19) hl rfl (by kernel_rfl) (by kernel_rfl) (by kernel_rfl) (by kernel_rfl) (by kernel_rfl) rfl trivial (fun _ _ _ h => h) (fun w => r_subM wm_u32 hl rfl rfl) rfl ?_
        clear hl a; intro a hl
        refine d_takeL (i := 20) hl rfl (by kernel_rfl) (by kernel_rfl) (by kernel_rfl) (by kernel_rfl) (by kernel_rfl) rfl trivial (fun _ _ _ h => h) (fun w => r_assign hl rfl) rfl ?_
        clear hl a; intro a hl
        refine d_done (by kernel_rfl) ?_
        try clear hM
        have hl2 := hl.add (t := 2) (hl.nil) rfl; clear hl; have hl := hl2; clear hl2
        refine then_normal ?_
        refine i_ret ?_
        refine then_ret ?_
        refine m_ret (f_ret1 (F' := []) hl hh rfl rfl (by repeat (first | exact keeps_nil | apply keeps_cons (by repeat (first | exact find_head | apply find_tail)) (by first  | rfl) | exact keeps_self | exact keeps_left | exact keeps_right | exact keeps_swap | apply keeps_mv)) ?_)
        exact ⟨congrArg (Value.int .u32) (pipeP_2 (by assumption) (by assumption) (by assumption)), rfl⟩
    · intro hc0
      try simp only [decide_eq_true_eq, decide_eq_false_iff_not, Bool.not_eq_true', Bool.not_eq_false', Bool.not_eq_true, Bool.not_eq_false, Bool.and_eq_true, Bool.or_eq_true, Bool.and_eq_false_iff, Bool.or_eq_false_iff, Bool.not_not, ne_eq, Int.not_lt, Int.not_le, Decidable.not_not, beq_iff_eq, bne_iff_ne] at hc0
      refine i_skip ?_
      refine then_normal ?_
      refine i_seq ?_
      refine i_region ?_
      refine wli nofun (fun _ _ h => h) (w_alloc hl hh rfl trivial zero29 rfl ?_)
      clear hl hh a w; intro k4 a w hl hh
      refine wli nofun (fun _ _ h => h) (w_store hl hh trivial one29 rfl rfl (by repeat (first | exact find_head | apply find_tail)) (by first | (simp; done) | (simp; omega)) (by first | rfl | assumption | (apply Row.one; assumption)) (by first | (simp only [encC, setL, List.getElem?_cons_zero, List.getElem?_cons_succ, Value.cells, List.take_zero, List.take_succ_cons, List.take_nil, List.drop_zero, List.drop_succ_cons, List.drop_nil, List.length_cons, List.length_nil, List.cons_append, List.nil_append, List.append_nil, Nat.zero_add, Nat.add_zero, Nat.reduceAdd, Nat.reduceBEq, Nat.reduceEqDiff, Nat.ble, BEq.rfl, Bool.and_true, Bool.and_self, cond_true, beq_self_eq_true]; rfl) | (simp only [setL, List.getElem?_cons_zero, List.getElem?_cons_succ, Value.cells, List.take_zero, List.take_succ_cons, List.take_nil, List.drop_zero, List.drop_succ_cons, List.drop_nil, List.length_cons, List.length_nil, List.cons_append, List.nil_append, List.append_nil, Nat.zero_add, Nat.add_zero, Nat.reduceAdd, Nat.reduceBEq, Nat.reduceEqDiff, Nat.ble, BEq.rfl, Bool.and_true, Bool.and_self, cond_true, beq_self_eq_true]; rfl)) ?_)
      clear hh w; intro w hh
      refine wi_nil ?_
      have hl2 := hl.add (t := 1) (hl.add (t := 4) (hl.nil) rfl) rfl; clear hl; have hl := hl2; clear hl2
      refine then_normal ?_
      refine i_seq ?_
      refine i_seq ?_
      refine i_region ?_
      first | refine wli nofun (fun _ _ h => h) (w_load hl hh rfl trivial one24 rfl (by repeat (first | exact find_head | apply find_tail)) (by first | rfl) ?_) | refine wli nofun (fun _ _ h => h) (w_loadR hl hh rfl trivial one24 rfl hm (by simp) rfl ?_) | refine wli nofun (fun _ _ h => h) (w_loadR hl hh rfl trivial one24 rfl hm9 hcD9 rfl ?_)
      clear hl a; intro a hl
      refine wli nofun (fun _ _ h => h) (w_call hl hh rfl trivial rfl cal54 rfl (holes_spec cp) (by repeat (first | exact keeps_nil | apply keeps_cons (by repeat (first | exact find_head | apply find_tail)) (by first  | rfl) | exact keeps_self | exact keeps_left | exact keeps_right | exact keeps_swap | apply keeps_mv)) trivial ?_)
      clear hl hh a w; intro vc Fc a w hR hl hh
      obtain ⟨kb, rfl, rfl⟩ := hR
      try simp only [List.cons_append, List.nil_append] at hh
      refine wi_nil ?_
      have hl2 := hl.add (t := 1) (hl.add (t := 4) (hl.add (t := 47) (hl.nil) rfl) rfl) rfl; clear hl; have hl := hl2; clear hl2
      refine then_normal ?_
      refine i_block ?_
      refine range_holes hs hZ hl hh rfl hpre rfl (fun pre => [(k4, C [.int .u32 (pipeH s (pre))] 29), (k1, C [.pointer (some ⟨cp, 0, none⟩)] 24)]) (fun _ => []) (fun _ => True) (fun _ => False) trivial [k4, k1] (fun _ => rfl) (keeps_cons (by repeat (first | exact find_head | apply find_tail)) rfl (keeps_cons (by repeat (first | exact find_head | apply find_tail)) rfl keeps_nil)) (by simp) ?_ ?_ ?_
      ·
        clear hl hh a w; intro l lp pre x w9 w a hpx hcp hpz hl hh hdZ
        have hm9 := hpz _ _ hZ.mem; have hcD9 := hdZ _ hZ.mem
        simp only [hoc] at hl
        refine i_region ?_
        refine wli nofun (fun _ _ h => h) (w_alloc hl hh rfl trivial zero93 rfl ?_)
        clear hl hh a w; intro k5 a w hl hh
        refine wli nofun (fun _ _ h => h) (w_storeA hl hh trivial agg93 rfl rfl (by repeat (first | exact find_head | apply find_tail)) (by first | rfl | (simp; done)) (by first | (simp; done) | (simp; omega)) (by first | rfl | (simp; done)) (by first | (simp only [encC, setL, List.getElem?_cons_zero, List.getElem?_cons_succ, Value.cells, List.take_zero, List.take_succ_cons, List.take_nil, List.drop_zero, List.drop_succ_cons, List.drop_nil, List.length_cons, List.length_nil, List.cons_append, List.nil_append, List.append_nil, Nat.zero_add, Nat.add_zero, Nat.reduceAdd, Nat.reduceBEq, Nat.reduceEqDiff, Nat.ble, BEq.rfl, Bool.and_true, Bool.and_self, cond_true, beq_self_eq_true]; rfl) | (simp only [setL, List.getElem?_cons_zero, List.getElem?_cons_succ, Value.cells, List.take_zero, List.take_succ_cons, List.take_nil, List.drop_zero, List.drop_succ_cons, List.drop_nil, List.length_cons, List.length_nil, List.cons_append, List.nil_append, List.append_nil, Nat.zero_add, Nat.add_zero, Nat.reduceAdd, Nat.reduceBEq, Nat.reduceEqDiff, Nat.ble, BEq.rfl, Bool.and_true, Bool.and_self, cond_true, beq_self_eq_true]; rfl)) ?_)
        clear hh w; intro w hh
        refine wi_nil ?_
        have hl2 := hl.add (t := 1) (hl.add (t := 4) (hl.add (t := 5) (hl.nil) rfl) rfl) rfl; clear hl; have hl := hl2; clear hl2
        refine then_normal ?_
        refine ⟨_, hh.perm (Find.perm (b := l) (by repeat (first | exact find_head | apply find_tail))), ?_⟩
        clear hh w; intro w hh
        refine i_block ?_
        refine i_seq ?_
        refine i_seq ?_
        refine i_region ?_
        refine wli nofun (fun _ _ h => h) (wl_val hl rfl trivial (r_field hl rfl fld93_2) ?_)
        clear hl a; intro a hl
        first | refine wli nofun (fun _ _ h => h) (w_load hl hh rfl trivial one4 rfl (by repeat (first | exact find_head | apply find_tail)) (by first | rfl) ?_) | refine wli nofun (fun _ _ h => h) (w_loadR hl hh rfl trivial one4 rfl hm (by simp) rfl ?_) | refine wli nofun (fun _ _ h => h) (w_loadR hl hh rfl trivial one4 rfl hm9 hcD9 rfl ?_)
        clear hl a; intro a hl
        refine wli nofun (fun _ _ h => h) (wl_val hl rfl trivial (r_not hl rfl) ?_)
        clear hl a; intro a hl
        refine wi_nil ?_
        have hl2 := hl.add (t := 1) (hl.add (t := 4) (hl.add (t := 5) (hl.add (t := 51) (hl.nil) rfl) rfl) rfl) rfl; clear hl; have hl := hl2; clear hl2
        refine then_normal ?_
        refine i_cond hl rfl ?_ ?_
        · intro hc2
          try simp only [decide_eq_true_eq, decide_eq_false_iff_not, Bool.not_eq_true', Bool.not_eq_false', Bool.not_eq_true, Bool.not_eq_false, Bool.and_eq_true, Bool.or_eq_true, Bool.and_eq_false_iff, Bool.or_eq_false_iff, Bool.not_not, ne_eq, Int.not_lt, Int.not_le, Decidable.not_not, beq_iff_eq, bne_iff_ne] at hc2
          refine i_region ?_
          first | refine wli nofun (fun _ _ h => h) (w_load hl hh rfl trivial one29 rfl (by repeat (first | exact find_head | apply find_tail)) (by first | rfl) ?_) | refine wli nofun (fun _ _ h => h) (w_loadR hl hh rfl trivial one29 rfl hm (by simp) rfl ?_) | refine wli nofun (fun _ _ h => h) (w_loadR hl hh rfl trivial one29 rfl hm9 hcD9 rfl ?_)
          clear hl a; intro a hl
          refine wli nofun (fun _ _ h => h) (wl_val hl rfl trivial (r_field hl rfl fld93_1) ?_)
          clear hl a; intro a hl
          first | refine wli nofun (fun _ _ h => h) (w_load hl hh rfl trivial one29 rfl (by repeat (first | exact find_head | apply find_tail)) (by first | rfl) ?_) | refine wli nofun (fun _ _ h => h) (w_loadR hl hh rfl trivial one29 rfl hm (by simp) rfl ?_) | refine wli nofun (fun _ _ h => h) (w_loadR hl hh rfl trivial one29 rfl hm9 hcD9 rfl ?_)
          clear hl a; intro a hl
          refine wli nofun (fun _ _ h => h) (wl_val hl rfl trivial (r_field hl rfl fld93_0) ?_)
          clear hl a; intro a hl
          first | refine wli nofun (fun _ _ h => h) (w_load hl hh rfl trivial one29 rfl (by repeat (first | exact find_head | apply find_tail)) (by first | rfl) ?_) | refine wli nofun (fun _ _ h => h) (w_loadR hl hh rfl trivial one29 rfl hm (by simp) rfl ?_) | refine wli nofun (fun _ _ h => h) (w_loadR hl hh rfl trivial one29 rfl hm9 hcD9 rfl ?_)
          clear hl a; intro a hl
          refine wli nofun (fun _ _ h => h) (wl_val hl rfl trivial (r_subM wm_u32 hl rfl rfl) ?_)
          clear hl a; intro a hl
          refine wli nofun (fun _ _ h => h) (wl_val hl rfl trivial (r_addM wm_u32 hl rfl rfl) ?_)
          clear hl a; intro a hl
          refine wli nofun (fun _ _ h => h) (w_store hl hh trivial one29 rfl rfl (by repeat (first | exact find_head | apply find_tail)) (by first | (simp; done) | (simp; omega)) (by first | rfl | assumption | (apply Row.one; assumption)) (by first | (simp only [encC, setL, List.getElem?_cons_zero, List.getElem?_cons_succ, Value.cells, List.take_zero, List.take_succ_cons, List.take_nil, List.drop_zero, List.drop_succ_cons, List.drop_nil, List.length_cons, List.length_nil, List.cons_append, List.nil_append, List.append_nil, Nat.zero_add, Nat.add_zero, Nat.reduceAdd, Nat.reduceBEq, Nat.reduceEqDiff, Nat.ble, BEq.rfl, Bool.and_true, Bool.and_self, cond_true, beq_self_eq_true]; rfl) | (simp only [setL, List.getElem?_cons_zero, List.getElem?_cons_succ, Value.cells, List.take_zero, List.take_succ_cons, List.take_nil, List.drop_zero, List.drop_succ_cons, List.drop_nil, List.length_cons, List.length_nil, List.cons_append, List.nil_append, List.append_nil, Nat.zero_add, Nat.add_zero, Nat.reduceAdd, Nat.reduceBEq, Nat.reduceEqDiff, Nat.ble, BEq.rfl, Bool.and_true, Bool.and_self, cond_true, beq_self_eq_true]; rfl)) ?_)
          clear hh w; intro w hh
          refine wi_nil ?_
          have hl2 := hl.add (t := 1) (hl.add (t := 4) (hl.add (t := 5) (hl.nil) rfl) rfl) rfl; clear hl; have hl := hl2; clear hl2
          rw [pipeT_1 (s := s) (pre := pre) (x := x) hc2] at hh
          refine then_normal ?_
          refine i_seq ?_
          refine i_draw [(k5, C [.int .u32 x.s, .int .u32 x.e, .bool x.lost, .bool x.tail] 93), (k1, C [.pointer (some ⟨cp, 0, none⟩)] 24), (cp, C (encC s sp) 66)] [6] mixed (by kernel_rfl) (fun _ _ h => h) hh ?_
          clear hh w; intro w hh
          have hM : Mem [(k5, C [.int .u32 x.s, .int .u32 x.e, .bool x.lost, .bool x.tail] 93), (k1, C [.pointer (some ⟨cp, 0, none⟩)] 24), (cp, C (encC s sp) 66)] w := (Mem.cons hh.mem (by repeat (first | exact find_head | apply find_tail)) (Mem.cons hh.mem (by repeat (first | exact find_head | apply find_tail)) (Mem.consR hh hm9 hcD9 Mem.nil)))
          refine d_take (i := 0) hl rfl (by kernel_rfl) (by kernel_rfl) (by kernel_rfl) (by kernel_rfl) (by kernel_rfl) rfl trivial (fun _ _ _ h => h) hM (fun w hC => r_field hl rfl fld93_0) rfl ?_
          clear hl a; intro a hl
          refine d_take (i := 1) hl rfl (by kernel_rfl) (by kernel_rfl) (by kernel_rfl) (by kernel_rfl) (by kernel_rfl) rfl trivial (fun _ _ _ h => h) hM (fun w hC => r_loadC hl rfl one29 hC (by repeat (first | exact find_head | apply find_tail)) (by first | rfl)) rfl ?_
          clear hl a; intro a hl
          refine d_take (i := 2) hl rfl (by kernel_rfl) (by kernel_rfl) (by kernel_rfl) (by kernel_rfl) (by kernel_rfl) rfl trivial (fun _ _ _ h => h) hM (fun w hC => r_loadC hl rfl one24 hC (by repeat (first | exact find_head | apply find_tail)) (by first | rfl)) rfl ?_
          clear hl a; intro a hl
          refine d_take (i := 3) hl rfl (by kernel_rfl) (by kernel_rfl) (by kernel_rfl) (by kernel_rfl) (by kernel_rfl) rfl trivial (fun _ _ _ h => h) hM (fun w hC => r_nilCheck hl rfl) rfl ?_
          clear hl a; intro a hl
          refine d_take (i := 4) hl rfl (by kernel_rfl) (by kernel_rfl) (by kernel_rfl) (by kernel_rfl) (by kernel_rfl) rfl trivial (fun _ _ _ h => h) hM (fun w hC => r_field hl rfl fld66_10) rfl ?_
          clear hl a; intro a hl
          refine d_take (i := 5) hl rfl (by kernel_rfl) (by kernel_rfl) (by kernel_rfl) (by kernel_rfl) (by kernel_rfl) rfl trivial (fun _ _ _ h => h) hM (fun w hC => r_loadC hl rfl one29 hC (by repeat (first | exact find_head | apply find_tail)) (by first | rfl)) rfl ?_
          clear hl a; intro a hl
          refine d_one (i := 6) (by kernel_rfl) rfl ?_
          try clear hM
          refine id (w_call hl hh rfl trivial rfl cal39 rfl (less_spec _ _) (by repeat (first | exact keeps_nil | apply keeps_cons (by repeat (first | exact find_head | apply find_tail)) (by first  | rfl) | exact keeps_self | exact keeps_left | exact keeps_right | exact keeps_swap | apply keeps_mv)) trivial ?_)
          clear hl hh a w; intro vc Fc a w hR hl hh
          obtain ⟨rfl, rfl⟩ := hR
          try simp only [List.cons_append, List.nil_append] at hh
          refine d_step (fun h => absurd h (by decide)) ?_
          refine d_done (by kernel_rfl) ?_
          try clear hM
          have hl2 := hl.add (t := 1) (hl.add (t := 4) (hl.add (t := 5) (hl.add (t := 65) (hl.nil) rfl) rfl) rfl) rfl; clear hl; have hl := hl2; clear hl2
          refine then_normal ?_
          refine i_cond hl rfl ?_ ?_
          · intro hc3
            try simp only [decide_eq_true_eq, decide_eq_false_iff_not, Bool.not_eq_true', Bool.not_eq_false', Bool.not_eq_true, Bool.not_eq_false, Bool.and_eq_true, Bool.or_eq_true, Bool.and_eq_false_iff, Bool.or_eq_false_iff, Bool.not_not, ne_eq, Int.not_lt, Int.not_le, Decidable.not_not, beq_iff_eq, bne_iff_ne] at hc3
            refine i_draw [(k4, C [.int .u32 (pv1 s pre x)] 29), (k5, C [.int .u32 x.s, .int .u32 x.e, .bool x.lost, .bool x.tail] 93), (k1, C [.pointer (some ⟨cp, 0, none⟩)] 24), (cp, C (encC s sp) 66)] [14, 15] mixed (by kernel_rfl) (fun _ _ h => h) hh ?_
            clear hh w; intro w hh
            have hM : Mem [(k4, C [.int .u32 (pv1 s pre x)] 29), (k5, C [.int .u32 x.s, .int .u32 x.e, .bool x.lost, .bool x.tail] 93), (k1, C [.pointer (some ⟨cp, 0, none⟩)] 24), (cp, C (encC s sp) 66)] w := (Mem.cons hh.mem (by repeat (first | exact find_head | apply find_tail)) (Mem.cons hh.mem (by repeat (first | exact find_head | apply find_tail)) (Mem.cons hh.mem (by repeat (first | exact find_head | apply find_tail)) (Mem.consR hh hm9 hcD9 Mem.nil))))
            refine d_take (i := 0) hl rfl (by kernel_rfl) (by kernel_rfl) (by kernel_rfl) (by kernel_rfl) (by kernel_rfl) rfl trivial (fun _ _ _ h => h) hM (fun w hC => r_loadC hl rfl one29 hC (by repeat (first | exact find_head | apply find_tail)) (by first | rfl)) rfl ?_
            clear hl a; intro a hl
            refine d_take (i := 1) hl rfl (by kernel_rfl) (by kernel_rfl) (by kernel_rfl) (by kernel_rfl) (by kernel_rfl) rfl trivial (fun _ _ _ h => h) hM (fun w hC => r_loadC hl rfl one24 hC (by repeat (first | exact find_head | apply find_tail)) (by first | rfl)) rfl ?_
            clear hl a; intro a hl
            refine d_take (i := 2) hl rfl (by kernel_rfl) (by kernel_rfl) (by kernel_rfl) (by kernel_rfl) (by kernel_rfl) rfl trivial (fun _ _ _ h => h) hM (fun w hC => r_nilCheck hl rfl) rfl ?_
            clear hl a; intro a hl
            refine d_take (i := 3) hl rfl (by kernel_rfl) (by kernel_rfl) (by kernel_rfl) (by kernel_rfl) (by kernel_rfl) rfl trivial (fun _ _ _ h => h) hM (fun w hC => r_field hl rfl fld66_10) rfl ?_
            clear hl a; intro a hl
            refine d_take (i := 4) hl rfl (by kernel_rfl) (by kernel_rfl) (by kernel_rfl) (by kernel_rfl) (by kernel_rfl) rfl trivial (fun _ _ _ h => h) hM (fun w hC => r_loadC hl rfl one29 hC (by repeat (first | exact find_head | apply find_tail)) (by first | rfl)) rfl ?_
            clear hl a; intro a hl
            refine d_take (i := 5) hl rfl (by kernel_rfl) (by kernel_rfl) (by kernel_rfl) (by kernel_rfl) (by kernel_rfl) rfl trivial (fun _ _ _ h => h) hM (fun w hC => r_field hl rfl fld93_0) rfl ?_
            clear hl a; intro a hl
            refine d_take (i := 6) hl rfl (by kernel_rfl) (by kernel_rfl) (by kernel_rfl) (by kernel_rfl) (by kernel_rfl) rfl trivial (fun _ _ _ h => h) hM (fun w hC => r_loadC hl rfl one29 hC (by repeat (first | exact find_head | apply find_tail)) (by first | rfl)) rfl ?_
            clear hl a; intro a hl
            refine d_take (i := 7) hl rfl (by kernel_rfl) (by kernel_rfl) (by kernel_rfl) (by kernel_rfl) (by kernel_rfl) rfl trivial (fun _ _ _ h => h) hM (fun w hC => r_subM wm_u32 hl rfl rfl) rfl ?_
            clear hl a; intro a hl
            refine d_take (i := 8) hl rfl (by kernel_rfl) (by kernel_rfl) (by kernel_rfl) (by kernel_rfl) (by kernel_rfl) rfl trivial (fun _ _ _ h => h) hM (fun w hC => r_field hl rfl fld93_1) rfl ?_
            clear hl a; intro a hl
            refine d_take (i := 9) hl rfl (by kernel_rfl) (by kernel_rfl) (by kernel_rfl) (by kernel_rfl) (by kernel_rfl) rfl trivial (fun _ _ _ h => h) hM (fun w hC => r_loadC hl rfl one29 hC (by repeat (first | exact find_head | apply find_tail)) (by first | rfl)) rfl ?_
            clear hl a; intro a hl
            refine d_take (i := 10) hl rfl (by kernel_rfl) (by kernel_rfl) (by kernel_rfl) (by kernel_rfl) (by kernel_rfl) rfl trivial (fun _ _ _ h => h) hM (fun w hC => r_field hl rfl fld93_0) rfl ?_
            clear hl a; intro a hl
            refine d_take (i := 11) hl rfl (by kernel_rfl) (by kernel_rfl) (by kernel_rfl) (by kernel_rfl) (by kernel_rfl) rfl trivial (fun _ _ _ h => h) hM (fun w hC => r_loadC hl rfl one29 hC (by repeat (first | exact find_head | apply find_tail)) (by first | rfl)) rfl ?_
            clear hl a; intro a hl
            refine d_take (i := 12) hl rfl (by kernel_rfl) (by kernel_rfl) (by kernel_rfl) (by kernel_rfl) (by kernel_rfl) rfl trivial (fun _ _ _ h => h) hM (fun w hC => r_subM wm_u32 hl rfl rfl) rfl ?_
            clear hl a; intro a hl
            refine d_take (i := 13) hl rfl (by kernel_rfl) (by kernel_rfl) (by kernel_rfl) (by kernel_rfl) (by kernel_rfl) rfl trivial (fun _ _ _ h => h) hM (fun w hC => r_minI hl rfl rfl) rfl ?_
            clear hl a; intro a hl
            refine d_takeL (i := 14) hl rfl (by kernel_rfl) (by kernel_rfl) (by kernel_rfl) (by kernel_rfl) (by kernel_rfl) rfl trivial (fun _ _ _ h => h) (fun w => r_addM wm_u32 hl rfl rfl) rfl ?_
            clear hl a; intro a hl
            refine d_one (i := 15) (by kernel_rfl) rfl ?_
            try clear hM
            refine id (w_store hl hh trivial one29 rfl rfl (by repeat (first | exact find_head | apply find_tail)) (by first | (simp; done) | (simp; omega)) (by first | rfl | assumption | (apply Row.one; assumption)) (by first | (simp only [encC, setL, List.getElem?_cons_zero, List.getElem?_cons_succ, Value.cells, List.take_zero, List.take_succ_cons, List.take_nil, List.drop_zero, List.drop_succ_cons, List.drop_nil, List.length_cons, List.length_nil, List.cons_append, List.nil_append, List.append_nil, Nat.zero_add, Nat.add_zero, Nat.reduceAdd, Nat.reduceBEq, Nat.reduceEqDiff, Nat.ble, BEq.rfl, Bool.and_true, Bool.and_self, cond_true, beq_self_eq_true]; rfl) | (simp only [setL, List.getElem?_cons_zero, List.getElem?_cons_succ, Value.cells, List.take_zero, List.take_succ_cons, List.take_nil, List.drop_zero, List.drop_succ_cons, List.drop_nil, List.length_cons, List.length_nil, List.cons_append, List.nil_append, List.append_nil, Nat.zero_add, Nat.add_zero, Nat.reduceAdd, Nat.reduceBEq, Nat.reduceEqDiff, Nat.ble, BEq.rfl, Bool.and_true, Bool.and_self, cond_true, beq_self_eq_true]; rfl)) ?_)
            clear hh w; intro w hh
            refine d_step (fun h => absurd h (by decide)) ?_
            refine d_done (by kernel_rfl) ?_
            try clear hM
            have hl2 := hl.nil; clear hl; have hl := hl2; clear hl2
            refine blk_normal ?_
            refine ⟨[(k4, C [.int .u32 (pipeH s (pre ++ [x]))] 29), (k1, C [.pointer (some ⟨cp, 0, none⟩)] 24)], ⟨trivial, rfl⟩, hh.keep (by repeat (first | exact keeps_nil | apply keeps_cons (by repeat (first | exact find_head | apply find_tail)) (by first  | (have h9 := pipeS_1 (s := s) (pre := pre) (x := x) (by assumption); exact blk_eq (congrArg (fun z => [Value.int .u32 z]) h9.symm)) | (have h9 := pipeS_2 (s := s) (pre := pre) (x := x) (by assumption); exact blk_eq (congrArg (fun z => [Value.int .u32 z]) h9.symm)) | rfl) | exact keeps_self | exact keeps_left | exact keeps_right | exact keeps_swap | apply keeps_mv))⟩
          · intro hc3
            try simp only [decide_eq_true_eq, decide_eq_false_iff_not, Bool.not_eq_true', Bool.not_eq_false', Bool.not_eq_true, Bool.not_eq_false, Bool.and_eq_true, Bool.or_eq_true, Bool.and_eq_false_iff, Bool.or_eq_false_iff, Bool.not_not, ne_eq, Int.not_lt, Int.not_le, Decidable.not_not, beq_iff_eq, bne_iff_ne] at hc3
            refine i_skip ?_
            refine blk_normal ?_
            refine ⟨[(k4, C [.int .u32 (pipeH s (pre ++ [x]))] 29), (k1, C [.pointer (some ⟨cp, 0, none⟩)] 24)], ⟨trivial, rfl⟩, hh.keep (by repeat (first | exact keeps_nil | apply keeps_cons (by repeat (first | exact find_head | apply find_tail)) (by first  | (have h9 := pipeS_1 (s := s) (pre := pre) (x := x) (by assumption); exact blk_eq (congrArg (fun z => [Value.int .u32 z]) h9.symm)) | (have h9 := pipeS_2 (s := s) (pre := pre) (x := x) (by assumption); exact blk_eq (congrArg (fun z => [Value.int .u32 z]) h9.symm)) | rfl) | exact keeps_self | exact keeps_left | exact keeps_right | exact keeps_swap | apply keeps_mv))⟩
        · intro hc2
          try simp only [decide_eq_true_eq, decide_eq_false_iff_not, Bool.not_eq_true', Bool.not_eq_false', Bool.not_eq_true, Bool.not_eq_false, Bool.and_eq_true, Bool.or_eq_true, Bool.and_eq_false_iff, Bool.or_eq_false_iff, Bool.not_not, ne_eq, Int.not_lt, Int.not_le, Decidable.not_not, beq_iff_eq, bne_iff_ne] at hc2
          rw [pipeT_2 (s := s) (pre := pre) (x := x) hc2] at hh
          refine i_skip ?_
          refine then_normal ?_
          refine i_seq ?_
          refine i_draw [(k5, C [.int .u32 x.s, .int .u32 x.e, .bool x.lost, .bool x.tail] 93), (k1, C [.pointer (some ⟨cp, 0, none⟩)] 24), (cp, C (encC s sp) 66)] [6] mixed (by kernel_rfl) (fun _ _ h => h) hh ?_
          clear hh w; intro w hh
          have hM : Mem [(k5, C [.int .u32 x.s, .int .u32 x.e, .bool x.lost, .bool x.tail] 93), (k1, C [.pointer (some ⟨cp, 0, none⟩)] 24), (cp, C (encC s sp) 66)] w := (Mem.cons hh.mem (by repeat (first | exact find_head | apply find_tail)) (Mem.cons hh.mem (by repeat (first | exact find_head | apply find_tail)) (Mem.consR hh hm9 hcD9 Mem.nil)))
          refine d_take (i := 0) hl rfl (by kernel_rfl) (by kernel_rfl) (by kernel_rfl) (by kernel_rfl) (by kernel_rfl) rfl trivial (fun _ _ _ h => h) hM (fun w hC => r_field hl rfl fld93_0) rfl ?_
          clear hl a; intro a hl
          refine d_take (i := 1) hl rfl (by kernel_rfl) (by kernel_rfl) (by kernel_rfl) (by kernel_rfl) (by kernel_rfl) rfl trivial (fun _ _ _ h => h) hM (fun w hC => r_loadC hl rfl one29 hC (by repeat (first | exact find_head | apply find_tail)) (by first | rfl)) rfl ?_
          clear hl a; intro a hl
          refine d_take (i := 2) hl rfl (by kernel_rfl) (by kernel_rfl) (by kernel_rfl) (by kernel_rfl) (by kernel_rfl) rfl trivial (fun _ _ _ h => h) hM (fun w hC => r_loadC hl rfl one24 hC (by repeat (first | exact find_head | apply find_tail)) (by first | rfl)) rfl ?_
          clear hl a; intro a hl
          refine d_take (i := 3) hl rfl (by kernel_rfl) (by kernel_rfl) (by kernel_rfl) (by kernel_rfl) (by kernel_rfl) rfl trivial (fun _ _ _ h => h) hM (fun w hC => r_nilCheck hl rfl) rfl ?_
          clear hl a; intro a hl
          refine d_take (i := 4) hl rfl (by kernel_rfl) (by kernel_rfl) (by kernel_rfl) (by kernel_rfl) (by kernel_rfl) rfl trivial (fun _ _ _ h => h) hM (fun w hC => r_field hl rfl fld66_10) rfl ?_
          clear hl a; intro a hl
          refine d_take (i := 5) hl rfl (by kernel_rfl) (by kernel_rfl) (by kernel_rfl) (by kernel_rfl) (by kernel_rfl) rfl trivial (fun _ _ _ h => h) hM (fun w hC => r_loadC hl rfl one29 hC (by repeat (first | exact find_head | apply find_tail)) (by first | rfl)) rfl ?_
          clear hl a; intro a hl
          refine d_one (i := 6) (by kernel_rfl) rfl ?_
          try clear hM
          refine id (w_call hl hh rfl trivial rfl cal39 rfl (less_spec _ _) (by repeat (first | exact keeps_nil | apply keeps_cons (by repeat (first | exact find_head | apply find_tail)) (by first  | rfl) | exact keeps_self | exact keeps_left | exact keeps_right | exact keeps_swap | apply keeps_mv)) trivial ?_)
          clear hl hh a w; intro vc Fc a w hR hl hh
          obtain ⟨rfl, rfl⟩ := hR
          try simp only [List.cons_append, List.nil_append] at hh
          refine d_step (fun h => absurd h (by decide)) ?_
          refine d_done (by kernel_rfl) ?_
          try clear hM
          have hl2 := hl.add (t := 1) (hl.add (t := 4) (hl.add (t := 5) (hl.add (t := 65) (hl.nil) rfl) rfl) rfl) rfl; clear hl; have hl := hl2; clear hl2
          refine then_normal ?_
          refine i_cond hl rfl ?_ ?_
          · intro hc3
            try simp only [decide_eq_true_eq, decide_eq_false_iff_not, Bool.not_eq_true', Bool.not_eq_false', Bool.not_eq_true, Bool.not_eq_false, Bool.and_eq_true, Bool.or_eq_true, Bool.and_eq_false_iff, Bool.or_eq_false_iff, Bool.not_not, ne_eq, Int.not_lt, Int.not_le, Decidable.not_not, beq_iff_eq, bne_iff_ne] at hc3
            refine i_draw [(k4, C [.int .u32 (pv1 s pre x)] 29), (k5, C [.int .u32 x.s, .int .u32 x.e, .bool x.lost, .bool x.tail] 93), (k1, C [.pointer (some ⟨cp, 0, none⟩)] 24), (cp, C (encC s sp) 66)] [14, 15] mixed (by kernel_rfl) (fun _ _ h => h) hh ?_
            clear hh w; intro w hh
            have hM : Mem [(k4, C [.int .u32 (pv1 s pre x)] 29), (k5, C [.int .u32 x.s, .int .u32 x.e, .bool x.lost, .bool x.tail] 93), (k1, C [.pointer (some ⟨cp, 0, none⟩)] 24), (cp, C (encC s sp) 66)] w := (Mem.cons hh.mem (by repeat (first | exact find_head | apply find_tail)) (Mem.cons hh.mem (by repeat (first | exact find_head | apply find_tail)) (Mem.cons hh.mem (by repeat (first | exact find_head | apply find_tail)) (Mem.consR hh hm9 hcD9 Mem.nil))))
            refine d_take (i := 0) hl rfl (by kernel_rfl) (by kernel_rfl) (by kernel_rfl) (by kernel_rfl) (by kernel_rfl) rfl trivial (fun _ _ _ h => h) hM (fun w hC => r_loadC hl rfl one29 hC (by repeat (first | exact find_head | apply find_tail)) (by first | rfl)) rfl ?_
            clear hl a; intro a hl
            refine d_take (i := 1) hl rfl (by kernel_rfl) (by kernel_rfl) (by kernel_rfl) (by kernel_rfl) (by kernel_rfl) rfl trivial (fun _ _ _ h => h) hM (fun w hC => r_loadC hl rfl one24 hC (by repeat (first | exact find_head | apply find_tail)) (by first | rfl)) rfl ?_
            clear hl a; intro a hl
            refine d_take (i := 2) hl rfl (by kernel_rfl) (by kernel_rfl) (by kernel_rfl) (by kernel_rfl) (by kernel_rfl) rfl trivial (fun _ _ _ h => h) hM (fun w hC => r_nilCheck hl rfl) rfl ?_
            clear hl a; intro a hl
            refine d_take (i := 3) hl rfl (by kernel_rfl) (by kernel_rfl) (by kernel_rfl) (by kernel_rfl) (by kernel_rfl) rfl trivial (fun _ _ _ h => h) hM (fun w hC => r_field hl rfl fld66_10) rfl ?_
            clear hl a; intro a hl
            refine d_take (i := 4) hl rfl (by kernel_rfl) (by kernel_rfl) (by kernel_rfl) (by kernel_rfl) (by kernel_rfl) rfl trivial (fun _ _ _ h => h) hM (fun w hC => r_loadC hl rfl one29 hC (by repeat (first | exact find_head | apply find_tail)) (by first | rfl)) rfl ?_
            clear hl a; intro a hl
            refine d_take (i := 5) hl rfl (by kernel_rfl) (by kernel_rfl) (by kernel_rfl) (by kernel_rfl) (by kernel_rfl) rfl trivial (fun _ _ _ h => h) hM (fun w hC => r_field hl rfl fld93_0) rfl ?_
            clear hl a; intro a hl
            refine d_take (i := 6) hl rfl (by kernel_rfl) (by kernel_rfl) (by kernel_rfl) (by kernel_rfl) (by kernel_rfl) rfl trivial (fun _ _ _ h => h) hM (fun w hC => r_loadC hl rfl one29 hC (by repeat (first | exact find_head | apply find_tail)) (by first | rfl)) rfl ?_
            clear hl a; intro a hl
            refine d_take (i := 7) hl rfl (by kernel_rfl) (by kernel_rfl) (by kernel_rfl) (by kernel_rfl) (by kernel_rfl) rfl trivial (fun _ _ _ h => h) hM (fun w hC => r_subM wm_u32 hl rfl rfl) rfl ?_
            clear hl a; intro a hl
            refine d_take (i := 8) hl rfl (by kernel_rfl) (by kernel_rfl) (by kernel_rfl) (by kernel_rfl) (by kernel_rfl) rfl trivial (fun _ _ _ h => h) hM (fun w hC => r_field hl rfl fld93_1) rfl ?_
            clear hl a; intro a hl
            refine d_take (i := 9) hl rfl (by kernel_rfl) (by kernel_rfl) (by kernel_rfl) (by kernel_rfl) (by kernel_rfl) rfl trivial (fun _ _ _ h => h) hM (fun w hC => r_loadC hl rfl one29 hC (by repeat (first | exact find_head | apply find_tail)) (by first | rfl)) rfl ?_
            clear hl a; intro a hl
            refine d_take (i := 10) hl rfl (by kernel_rfl) (by kernel_rfl) (by kernel_rfl) (by kernel_rfl) (by kernel_rfl) rfl trivial (fun _ _ _ h => h) hM (fun w hC => r_field hl rfl fld93_0) rfl ?_
            clear hl a; intro a hl
            refine d_take (i := 11) hl rfl (by kernel_rfl) (by kernel_rfl) (by kernel_rfl) (by kernel_rfl) (by kernel_rfl) rfl trivial (fun _ _ _ h => h) hM (fun w hC => r_loadC hl rfl one29 hC (by repeat (first | exact find_head | apply find_tail)) (by first | rfl)) rfl ?_
            clear hl a; intro a hl
            refine d_take (i := 12) hl rfl (by kernel_rfl) (by kernel_rfl) (by kernel_rfl) (by kernel_rfl) (by kernel_rfl) rfl trivial (fun _ _ _ h => h) hM (fun w hC => r_subM wm_u32 hl rfl rfl) rfl ?_
            clear hl a; intro a hl
            refine d_take (i := 13) hl rfl (by kernel_rfl) (by kernel_rfl) (by kernel_rfl) (by kernel_rfl) (by kernel_rfl) rfl trivial (fun _ _ _ h => h) hM (fun w hC => r_minI hl rfl rfl) rfl ?_
            clear hl a; intro a hl
            refine d_takeL (i := 14) hl rfl (by kernel_rfl) (by kernel_rfl) (by kernel_rfl) (by kernel_rfl) (by kernel_rfl) rfl trivial (fun _ _ _ h => h) (fun w => r_addM wm_u32 hl rfl rfl) rfl ?_
            clear hl a; intro a hl
            refine d_one (i := 15) (by kernel_rfl) rfl ?_
            try clear hM
            refine id (w_store hl hh trivial one29 rfl rfl (by repeat (first | exact find_head | apply find_tail)) (by first | (simp; done) | (simp; omega)) (by first | rfl | assumption | (apply Row.one; assumption)) (by first | (simp only [encC, setL, List.getElem?_cons_zero, List.getElem?_cons_succ, Value.cells, List.take_zero, List.take_succ_cons, List.take_nil, List.drop_zero, List.drop_succ_cons, List.drop_nil, List.length_cons, List.length_nil, List.cons_append, List.nil_append, List.append_nil, Nat.zero_add, Nat.add_zero, Nat.reduceAdd, Nat.reduceBEq, Nat.reduceEqDiff, Nat.ble, BEq.rfl, Bool.and_true, Bool.and_self, cond_true, beq_self_eq_true]; rfl) | (simp only [setL, List.getElem?_cons_zero, List.getElem?_cons_succ, Value.cells, List.take_zero, List.take_succ_cons, List.take_nil, List.drop_zero, List.drop_succ_cons, List.drop_nil, List.length_cons, List.length_nil, List.cons_append, List.nil_append, List.append_nil, Nat.zero_add, Nat.add_zero, Nat.reduceAdd, Nat.reduceBEq, Nat.reduceEqDiff, Nat.ble, BEq.rfl, Bool.and_true, Bool.and_self, cond_true, beq_self_eq_true]; rfl)) ?_)
            clear hh w; intro w hh
            refine d_step (fun h => absurd h (by decide)) ?_
            refine d_done (by kernel_rfl) ?_
            try clear hM
            have hl2 := hl.nil; clear hl; have hl := hl2; clear hl2
            refine blk_normal ?_
            refine ⟨[(k4, C [.int .u32 (pipeH s (pre ++ [x]))] 29), (k1, C [.pointer (some ⟨cp, 0, none⟩)] 24)], ⟨trivial, rfl⟩, hh.keep (by repeat (first | exact keeps_nil | apply keeps_cons (by repeat (first | exact find_head | apply find_tail)) (by first  | (have h9 := pipeS_1 (s := s) (pre := pre) (x := x) (by assumption); exact blk_eq (congrArg (fun z => [Value.int .u32 z]) h9.symm)) | (have h9 := pipeS_2 (s := s) (pre := pre) (x := x) (by assumption); exact blk_eq (congrArg (fun z => [Value.int .u32 z]) h9.symm)) | rfl) | exact keeps_self | exact keeps_left | exact keeps_right | exact keeps_swap | apply keeps_mv))⟩
          · intro hc3
            try simp only [decide_eq_true_eq, decide_eq_false_iff_not, Bool.not_eq_true', Bool.not_eq_false', Bool.not_eq_true, Bool.not_eq_false, Bool.and_eq_true, Bool.or_eq_true, Bool.and_eq_false_iff, Bool.or_eq_false_iff, Bool.not_not, ne_eq, Int.not_lt, Int.not_le, Decidable.not_not, beq_iff_eq, bne_iff_ne] at hc3
            refine i_skip ?_
            refine blk_normal ?_
            refine ⟨[(k4, C [.int .u32 (pipeH s (pre ++ [x]))] 29), (k1, C [.pointer (some ⟨cp, 0, none⟩)] 24)], ⟨trivial, rfl⟩, hh.keep (by repeat (first | exact keeps_nil | apply keeps_cons (by repeat (first | exact find_head | apply find_tail)) (by first  | (have h9 := pipeS_1 (s := s) (pre := pre) (x := x) (by assumption); exact blk_eq (congrArg (fun z => [Value.int .u32 z]) h9.symm)) | (have h9 := pipeS_2 (s := s) (pre := pre) (x := x) (by assumption); exact blk_eq (congrArg (fun z => [Value.int .u32 z]) h9.symm)) | rfl) | exact keeps_self | exact keeps_left | exact keeps_right | exact keeps_swap | apply keeps_mv))⟩
      ·
        clear hl hh a w; intro dm a w _ hl hh
        simp only [List.cons_append, List.nil_append] at hh
        refine blk_normal ?_
        refine then_normal ?_
        refine i_seq ?_
        refine i_region ?_
        first | refine wli nofun (fun _ _ h => h) (w_load hl hh rfl trivial one29 rfl (by repeat (first | exact find_head | apply find_tail)) (by first | rfl) ?_) | refine wli nofun (fun _ _ h => h) (w_loadR hl hh rfl trivial one29 rfl hm (by simp) rfl ?_) | refine wli nofun (fun _ _ h => h) (w_loadR hl hh rfl trivial one29 rfl hm9 hcD9 rfl ?_)
        clear hl a; intro a hl
        refine wli nofun (fun _ _ h => h) (wl_val hl rfl trivial (r_assign hl rfl) ?_)
        clear hl a; intro a hl
        refine wi_nil ?_
        have hl2 := hl.add (t := 2) (hl.nil) rfl; clear hl; have hl := hl2; clear hl2
        refine then_normal ?_
        refine i_ret ?_
        refine f_ret1M (F' := []) hl hh (by repeat (first | exact find_head | apply find_tail)) rfl rfl (by repeat (first | exact keeps_nil | apply keeps_cons (by repeat (first | exact find_head | apply find_tail)) (by first  | rfl) | exact keeps_self | exact keeps_left | exact keeps_right | exact keeps_swap | apply keeps_mv)) ?_
        first | exact ⟨congrArg (Value.int .u32) (pipeP_3 (by assumption)), rfl⟩ | exact ⟨congrArg (Value.int .u32) (pipeP_4 (by assumption)), rfl⟩
      ·
        clear hl hh a w; intro dm pre x a4 w4 h1 h2; exact h2.elim
  · intro hg1; clear hl; intro hl
    try simp only [decide_eq_true_eq, decide_eq_false_iff_not, Bool.not_eq_true', Bool.not_eq_false', Bool.not_eq_true, Bool.not_eq_false, Bool.and_eq_true, Bool.or_eq_true, Bool.and_eq_false_iff, Bool.or_eq_false_iff, Bool.not_not, ne_eq, Int.not_lt, Int.not_le, Decidable.not_not, beq_iff_eq, bne_iff_ne] at hg1
    refine wli nofun (fun _ _ h => h) (wl_skip hl rfl ⟨_, _, rfl, rfl, rfl⟩ ?_)
    clear hl a; intro a hl
    refine wli nofun (fun _ _ h => h) (wl_skip hl rfl ⟨_, _, rfl, rfl, rfl⟩ ?_)
    clear hl a; intro a hl
    refine wli nofun (fun _ _ h => h) (wl_skip hl rfl ⟨_, _, rfl, rfl, rfl⟩ ?_)
    clear hl a; intro a hl
    refine wli nofun (fun _ _ h => h) (wl_skip hl rfl ⟨_, _, rfl, rfl, rfl⟩ ?_)
    clear hl a; intro a hl
    refine wli nofun (fun _ _ h => h) (wl_skip hl rfl ⟨_, _, rfl, rfl, rfl⟩ ?_)
    clear hl a; intro a hl
    refine wli nofun (fun _ _ h => h) (wl_val hl rfl trivial (r_pickF hl rfl rfl) ?_)
    clear hl a; intro a hl
    refine wi_nil ?_
    have hl2 := hl.add (t := 1) (hl.add (t := 17) (hl.nil) rfl) rfl; clear hl; have hl := hl2; clear hl2
    refine then_normal ?_
    refine i_condF hl rfl ?_
    refine i_skip ?_
    refine then_normal ?_
    refine i_seq ?_
    refine i_region ?_
    refine wli nofun (fun _ _ h => h) (w_alloc hl hh rfl trivial zero29 rfl ?_)
    clear hl hh a w; intro k4 a w hl hh
    refine wli nofun (fun _ _ h => h) (w_store hl hh trivial one29 rfl rfl (by repeat (first | exact find_head | apply find_tail)) (by first | (simp; done) | (simp; omega)) (by first | rfl | assumption | (apply Row.one; assumption)) (by first | (simp only [encC, setL, List.getElem?_cons_zero, List.getElem?_cons_succ, Value.cells, List.take_zero, List.take_succ_cons, List.take_nil, List.drop_zero, List.drop_succ_cons, List.drop_nil, List.length_cons, List.length_nil, List.cons_append, List.nil_append, List.append_nil, Nat.zero_add, Nat.add_zero, Nat.reduceAdd, Nat.reduceBEq, Nat.reduceEqDiff, Nat.ble, BEq.rfl, Bool.and_true, Bool.and_self, cond_true, beq_self_eq_true]; rfl) | (simp only [setL, List.getElem?_cons_zero, List.getElem?_cons_succ, Value.cells, List.take_zero, List.take_succ_cons, List.take_nil, List.drop_zero, List.drop_succ_cons, List.drop_nil, List.length_cons, List.length_nil, List.cons_append, List.nil_append, List.append_nil, Nat.zero_add, Nat.add_zero, Nat.reduceAdd, Nat.reduceBEq, Nat.reduceEqDiff, Nat.ble, BEq.rfl, Bool.and_true, Bool.and_self, cond_true, beq_self_eq_true]; rfl)) ?_)
    clear hh w; intro w hh
    refine wi_nil ?_
    have hl2 := hl.add (t := 1) (hl.add (t := 4) (hl.nil) rfl) rfl; clear hl; have hl := hl2; clear hl2
    refine then_normal ?_
    refine i_seq ?_
    refine i_seq ?_
    refine i_region ?_
    first | refine wli nofun (fun _ _ h => h) (w_load hl hh rfl trivial one24 rfl (by repeat (first | exact find_head | apply find_tail)) (by first | rfl) ?_) | refine wli nofun (fun _ _ h => h) (w_loadR hl hh rfl trivial one24 rfl hm (by simp) rfl ?_) | refine wli nofun (fun _ _ h => h) (w_loadR hl hh rfl trivial one24 rfl hm9 hcD9 rfl ?_)
    clear hl a; intro a hl
    refine wli nofun (fun _ _ h => h) (w_call hl hh rfl trivial rfl cal54 rfl (holes_spec cp) (by repeat (first | exact keeps_nil | apply keeps_cons (by repeat (first | exact find_head | apply find_tail)) (by first  | rfl) | exact keeps_self | exact keeps_left | exact keeps_right | exact keeps_swap | apply keeps_mv)) trivial ?_)
    clear hl hh a w; intro vc Fc a w hR hl hh
    obtain ⟨kb, rfl, rfl⟩ := hR
    try simp only [List.cons_append, List.nil_append] at hh
    refine wi_nil ?_
    have hl2 := hl.add (t := 1) (hl.add (t := 4) (hl.add (t := 47) (hl.nil) rfl) rfl) rfl; clear hl; have hl := hl2; clear hl2
    refine then_normal ?_
    refine i_block ?_
    refine range_holes hs hZ hl hh rfl hpre rfl (fun pre => [(k4, C [.int .u32 (pipeH s (pre))] 29), (k1, C [.pointer (some ⟨cp, 0, none⟩)] 24)]) (fun _ => []) (fun _ => True) (fun _ => False) trivial [k4, k1] (fun _ => rfl) (keeps_cons (by repeat (first | exact find_head | apply find_tail)) rfl (keeps_cons (by repeat (first | exact find_head | apply find_tail)) rfl keeps_nil)) (by simp) ?_ ?_ ?_
    ·
      clear hl hh a w; intro l lp pre x w9 w a hpx hcp hpz hl hh hdZ
      have hm9 := hpz _ _ hZ.mem; have hcD9 := hdZ _ hZ.mem
      simp only [hoc] at hl
      refine i_region ?_
      refine wli nofun (fun _ _ h => h) (w_alloc hl hh rfl trivial zero93 rfl ?_)
      clear hl hh a w; intro k5 a w hl hh
      refine wli nofun (fun _ _ h => h) (w_storeA hl hh trivial agg93 rfl rfl (by repeat (first | exact find_head | apply find_tail)) (by first | rfl | (simp; done)) (by first | (simp; done) | (simp; omega)) (by first | rfl | (simp; done)) (by first | (simp only [encC, setL, List.getElem?_cons_zero, List.getElem?_cons_succ, Value.cells, List.take_zero, List.take_succ_cons, List.take_nil, List.drop_zero, List.drop_succ_cons, List.drop_nil, List.length_cons, List.length_nil, List.cons_append, List.nil_append, List.append_nil, Nat.zero_add, Nat.add_zero, Nat.reduceAdd, Nat.reduceBEq, Nat.reduceEqDiff, Nat.ble, BEq.rfl, Bool.and_true, Bool.and_self, cond_true, beq_self_eq_true]; rfl) | (simp only [setL, List.getElem?_cons_zero, List.getElem?_cons_succ, Value.cells, List.take_zero, List.take_succ_cons, List.take_nil, List.drop_zero, List.drop_succ_cons, List.drop_nil, List.length_cons, List.length_nil, List.cons_append, List.nil_append, List.append_nil, Nat.zero_add, Nat.add_zero, Nat.reduceAdd, Nat.reduceBEq, Nat.reduceEqDiff, Nat.ble, BEq.rfl, Bool.and_true, Bool.and_self, cond_true, beq_self_eq_true]; rfl)) ?_)
      clear hh w; intro w hh
      refine wi_nil ?_
      have hl2 := hl.add (t := 1) (hl.add (t := 4) (hl.add (t := 5) (hl.nil) rfl) rfl) rfl; clear hl; have hl := hl2; clear hl2
      refine then_normal ?_
      refine ⟨_, hh.perm (Find.perm (b := l) (by repeat (first | exact find_head | apply find_tail))), ?_⟩
      clear hh w; intro w hh
      refine i_block ?_
      refine i_seq ?_
      refine i_seq ?_
      refine i_region ?_
      refine wli nofun (fun _ _ h => h) (wl_val hl rfl trivial (r_field hl rfl fld93_2) ?_)
      clear hl a; intro a hl
      first | refine wli nofun (fun _ _ h => h) (w_load hl hh rfl trivial one4 rfl (by repeat (first | exact find_head | apply find_tail)) (by first | rfl) ?_) | refine wli nofun (fun _ _ h => h) (w_loadR hl hh rfl trivial one4 rfl hm (by simp) rfl ?_) | refine wli nofun (fun _ _ h => h) (w_loadR hl hh rfl trivial one4 rfl hm9 hcD9 rfl ?_)
      clear hl a; intro a hl
      refine wli nofun (fun _ _ h => h) (wl_val hl rfl trivial (r_not hl rfl) ?_)
      clear hl a; intro a hl
      refine wi_nil ?_
      have hl2 := hl.add (t := 1) (hl.add (t := 4) (hl.add (t := 5) (hl.add (t := 51) (hl.nil) rfl) rfl) rfl) rfl; clear hl; have hl := hl2; clear hl2
      refine then_normal ?_
      refine i_cond hl rfl ?_ ?_
      · intro hc2
        try simp only [decide_eq_true_eq, decide_eq_false_iff_not, Bool.not_eq_true', Bool.not_eq_false', Bool.not_eq_true, Bool.not_eq_false, Bool.and_eq_true, Bool.or_eq_true, Bool.and_eq_false_iff, Bool.or_eq_false_iff, Bool.not_not, ne_eq, Int.not_lt, Int.not_le, Decidable.not_not, beq_iff_eq, bne_iff_ne] at hc2
        refine i_region ?_
        first | refine wli nofun (fun _ _ h => h) (w_load hl hh rfl trivial one29 rfl (by repeat (first | exact find_head | apply find_tail)) (by first | rfl) ?_) | refine wli nofun (fun _ _ h => h) (w_loadR hl hh rfl trivial one29 rfl hm (by simp) rfl ?_) | refine wli nofun (fun _ _ h => h) (w_loadR hl hh rfl trivial one29 rfl hm9 hcD9 rfl ?_)
        clear hl a; intro a hl
        refine wli nofun (fun _ _ h => h) (wl_val hl rfl trivial (r_field hl rfl fld93_1) ?_)
        clear hl a; intro a hl
        first | refine wli nofun (fun _ _ h => h) (w_load hl hh rfl trivial one29 rfl (by repeat (first | exact find_head | apply find_tail)) (by first | rfl) ?_) | refine wli nofun (fun _ _ h => h) (w_loadR hl hh rfl trivial one29 rfl hm (by simp) rfl ?_) | refine wli nofun (fun _ _ h => h) (w_loadR hl hh rfl trivial one29 rfl hm9 hcD9 rfl ?_)
        clear hl a; intro a hl
        refine wli nofun (fun _ _ h => h) (wl_val hl rfl trivial (r_field hl rfl fld93_0) ?_)
        clear hl a; intro a hl
        first | refine wli nofun (fun _ _ h => h) (w_load hl hh rfl trivial one29 rfl (by repeat (first | exact find_head | apply find_tail)) (by first | rfl) ?_) | refine wli nofun (fun _ _ h => h) (w_loadR hl hh rfl trivial one29 rfl hm (by simp) rfl ?_) | refine wli nofun (fun _ _ h => h) (w_loadR hl hh rfl trivial one29 rfl hm9 hcD9 rfl ?_)
        clear hl a; intro a hl
        refine wli nofun (fun _ _ h => h) (wl_val hl rfl trivial (r_subM wm_u32 hl rfl rfl) ?_)
        clear hl a; intro a hl
        refine wli nofun (fun _ _ h => h) (wl_val hl rfl trivial (r_addM wm_u32 hl rfl rfl) ?_)
        clear hl a; intro a hl
        refine wli nofun (fun _ _ h => h) (w_store hl hh trivial one29 rfl rfl (by repeat (first | exact find_head | apply find_tail)) (by first | (simp; done) | (simp; omega)) (by first | rfl | assumption | (apply Row.one; assumption)) (by first | (simp only [encC, setL, List.getElem?_cons_zero, List.getElem?_cons_succ, Value.cells, List.take_zero, List.take_succ_cons, List.take_nil, List.drop_zero, List.drop_succ_cons, List.drop_nil, List.length_cons, List.length_nil, List.cons_append, List.nil_append, List.append_nil, Nat.zero_add, Nat.add_zero, Nat.reduceAdd, Nat.reduceBEq, Nat.reduceEqDiff, Nat.ble, BEq.rfl, Bool.and_true, Bool.and_self, cond_true, beq_self_eq_true]; rfl) | (simp only [setL, List.getElem?_cons_zero, List.getElem?_cons_succ, Value.cells, List.take_zero, List.take_succ_cons, List.take_nil, List.drop_zero, List.drop_succ_cons, List.drop_nil, List.length_cons, List.length_nil, List.cons_append, List.nil_append, List.append_nil, Nat.zero_add, Nat.add_zero, Nat.reduceAdd, Nat.reduceBEq, Nat.reduceEqDiff, Nat.ble, BEq.rfl, Bool.and_true, Bool.and_self, cond_true, beq_self_eq_true]; rfl)) ?_)
        clear hh w; intro w hh
        refine wi_nil ?_
        have hl2 := hl.add (t := 1) (hl.add (t := 4) (hl.add (t := 5) (hl.nil) rfl) rfl) rfl; clear hl; have hl := hl2; clear hl2
        rw [pipeT_1 (s := s) (pre := pre) (x := x) hc2] at hh
        refine then_normal ?_
        refine i_seq ?_
        refine i_draw [(k5, C [.int .u32 x.s, .int .u32 x.e, .bool x.lost, .bool x.tail] 93), (k1, C [.pointer (some ⟨cp, 0, none⟩)] 24), (cp, C (encC s sp) 66)] [6] mixed (by kernel_rfl) (fun _ _ h => h) hh ?_
        clear hh w; intro w hh
        have hM : Mem [(k5, C [.int .u32 x.s, .int .u32 x.e, .bool x.lost, .bool x.tail] 93), (k1, C [.pointer (some ⟨cp, 0, none⟩)] 24), (cp, C (encC s sp) 66)] w := (Mem.cons hh.mem (by repeat (first | exact find_head | apply find_tail)) (Mem.cons hh.mem (by repeat (first | exact find_head | apply find_tail)) (Mem.consR hh hm9 hcD9 Mem.nil)))
        refine d_take (i := 0) hl rfl (by kernel_rfl) (by kernel_rfl) (by kernel_rfl) (by kernel_rfl) (by kernel_rfl) rfl trivial (fun _ _ _ h => h) hM (fun w hC => r_field hl rfl fld93_0) rfl ?_
        clear hl a; intro a hl
        refine d_take (i := 1) hl rfl (by kernel_rfl) (by kernel_rfl) (by kernel_rfl) (by kernel_rfl) (by kernel_rfl) rfl trivial (fun _ _ _ h => h) hM (fun w hC => r_loadC hl rfl one29 hC (by repeat (first | exact find_head | apply find_tail)) (by first | rfl)) rfl ?_
        clear hl a; intro a hl
        refine d_take (i := 2) hl rfl (by kernel_rfl) (by kernel_rfl) (by kernel_rfl) (by kernel_rfl) (by kernel_rfl) rfl trivial (fun _ _ _ h => h) hM (fun w hC => r_loadC hl rfl one24 hC (by repeat (first | exact find_head | apply find_tail)) (by first | rfl)) rfl ?_
        clear hl a; intro a hl
        refine d_take (i := 3) hl rfl (by kernel_rfl) (by kernel_rfl) (by kernel_rfl) (by kernel_rfl) (by kernel_rfl) rfl trivial (fun _ _ _ h => h) hM (fun w hC => r_nilCheck hl rfl) rfl ?_
        clear hl a; intro a hl
        refine d_take (i := 4) hl rfl (by kernel_rfl) (by kernel_rfl) (by kernel_rfl) (by kernel_rfl) (by kernel_rfl) rfl trivial (fun _ _ _ h => h) hM (fun w hC => r_field hl rfl fld66_10) rfl ?_
        clear hl a; intro a hl
        refine d_take (i := 5) hl rfl (by kernel_rfl) (by kernel_rfl) (by kernel_rfl) (by kernel_rfl) (by kernel_rfl) rfl trivial (fun _ _ _ h => h) hM (fun w hC => r_loadC hl rfl one29 hC (by repeat (first | exact find_head | apply find_tail)) (by first | rfl)) rfl ?_
        clear hl a; intro a hl
        refine d_one (i := 6) (by kernel_rfl) rfl ?_
        try clear hM
        refine id (w_call hl hh rfl trivial rfl cal39 rfl (less_spec _ _) (by repeat (first | exact keeps_nil | apply keeps_cons (by repeat (first | exact find_head | apply find_tail)) (by first  | rfl) | exact keeps_self | exact keeps_left | exact keeps_right | exact keeps_swap | apply keeps_mv)) trivial ?_)
        clear hl hh a w; intro vc Fc a w hR hl hh
        obtain ⟨rfl, rfl⟩ := hR
        try simp only [List.cons_append, List.nil_append] at hh
        refine d_step (fun h => absurd h (by decide)) ?_
        refine d_done (by kernel_rfl) ?_
        try clear hM
        have hl2 := hl.add (t := 1) (hl.add (t := 4) (hl.add (t := 5) (hl.add (t := 65) (hl.nil) rfl) rfl) rfl) rfl; clear hl; have hl := hl2; clear hl2
        refine then_normal ?_
        refine i_cond hl rfl ?_ ?_
        · intro hc3
          try simp only [decide_eq_true_eq, decide_eq_false_iff_not, Bool.not_eq_true', Bool.not_eq_false', Bool.not_eq_true, Bool.not_eq_false, Bool.and_eq_true, Bool.or_eq_true, Bool.and_eq_false_iff, Bool.or_eq_false_iff, Bool.not_not, ne_eq, Int.not_lt, Int.not_le, Decidable.not_not, beq_iff_eq, bne_iff_ne] at hc3
          refine i_draw [(k4, C [.int .u32 (pv1 s pre x)] 29), (k5, C [.int .u32 x.s, .int .u32 x.e, .bool x.lost, .bool x.tail] 93), (k1, C [.pointer (some ⟨cp, 0, none⟩)] 24), (cp, C (encC s sp) 66)] [14, 15] mixed (by kernel_rfl) (fun _ _ h => h) hh ?_
          clear hh w; intro w hh
          have hM : Mem [(k4, C [.int .u32 (pv1 s pre x)] 29), (k5, C [.int .u32 x.s, .int .u32 x.e, .bool x.lost, .bool x.tail] 93), (k1, C [.pointer (some ⟨cp, 0, none⟩)] 24), (cp, C (encC s sp) 66)] w := (Mem.cons hh.mem (by repeat (first | exact find_head | apply find_tail)) (Mem.cons hh.mem (by repeat (first | exact find_head | apply find_tail)) (Mem.cons hh.mem (by repeat (first | exact find_head | apply find_tail)) (Mem.consR hh hm9 hcD9 Mem.nil))))
          refine d_take (i := 0) hl rfl (by kernel_rfl) (by kernel_rfl) (by kernel_rfl) (by kernel_rfl) (by kernel_rfl) rfl trivial (fun _ _ _ h => h) hM (fun w hC => r_loadC hl rfl one29 hC (by repeat (first | exact find_head | apply find_tail)) (by first | rfl)) rfl ?_
          clear hl a; intro a hl
          refine d_take (i := 1) hl rfl (by kernel_rfl) (by kernel_rfl) (by kernel_rfl) (by kernel_rfl) (by kernel_rfl) rfl trivial (fun _ _ _ h => h) hM (fun w hC => r_loadC hl rfl one24 hC (by repeat (first | exact find_head | apply find_tail)) (by first | rfl)) rfl ?_
          clear hl a; intro a hl
          refine d_take (i := 2) hl rfl (by kernel_rfl) (by kernel_rfl) (by kernel_rfl) (by kernel_rfl) (by kernel_rfl) rfl trivial (fun _ _ _ h => h) hM (fun w hC => r_nilCheck hl rfl) rfl ?_
          clear hl a; intro a hl
          refine d_take (i := 3) hl rfl (by kernel_rfl) (by kernel_rfl) (by kernel_rfl) (by kernel_rfl) (by kernel_rfl) rfl trivial (fun _ _ _ h => h) hM (fun w hC => r_field hl rfl fld66_10) rfl ?_
          clear hl a; intro a hl
          refine d_take (i := 4) hl rfl (by kernel_rfl) (by kernel_rfl) (by kernel_rfl) (by kernel_rfl) (by kernel_rfl) rfl trivial (fun _ _ _ h => h) hM (fun w hC => r_loadC hl rfl one29 hC (by repeat (first | exact find_head | apply find_tail)) (by first | rfl)) rfl ?_
          clear hl a; intro a hl
          refine d_take (i := 5) hl rfl (by kernel_rfl) (by kernel_rfl) (by kernel_rfl) (by kernel_rfl) (by kernel_rfl) rfl trivial (fun _ _ _ h => h) hM (fun w hC => r_field hl rfl fld93_0) rfl ?_
          clear hl a; intro a hl
          refine d_take (i := 6) hl rfl (by kernel_rfl) (by kernel_rfl) (by kernel_rfl) (by kernel_rfl) (by kernel_rfl) rfl trivial (fun _ _ _ h => h) hM (fun w hC => r_loadC hl rfl one29 hC (by repeat (first | exact find_head | apply find_tail)) (by first | rfl)) rfl ?_
          clear hl a; intro a hl
          refine d_take (i := 7) hl rfl (by kernel_rfl) (by kernel_rfl) (by kernel_rfl) (by kernel_rfl) (by kernel_rfl) rfl trivial (fun _ _ _ h => h) hM (fun w hC => r_subM wm_u32 hl rfl rfl) rfl ?_
          clear hl a; intro a hl
          refine d_take (i := 8) hl rfl (by kernel_rfl) (by kernel_rfl) (by kernel_rfl) (by kernel_rfl) (by kernel_rfl) rfl trivial (fun _ _ _ h => h) hM (fun w hC => r_field hl rfl fld93_1) rfl ?_
          clear hl a; intro a hl
          refine d_take (i := 9) hl rfl (by kernel_rfl) (by kernel_rfl) (by kernel_rfl) (by kernel_rfl) (by kernel_rfl) rfl trivial (fun _ _ _ h => h) hM (fun w hC => r_loadC hl rfl one29 hC (by repeat (first | exact find_head | apply find_tail)) (by first | rfl)) rfl ?_
          clear hl a; intro a hl
          refine d_take (i := 10) hl rfl (by kernel_rfl) (by kernel_rfl) (by kernel_rfl) (by kernel_rfl) (by kernel_rfl) rfl trivial (fun _ _ _ h => h) hM (fun w hC => r_field hl rfl fld93_0) rfl ?_
          clear hl a; intro a hl
          refine d_take (i := 11) hl rfl (by kernel_rfl) (by kernel_rfl) (by kernel_rfl) (by kernel_rfl) (by kernel_rfl) rfl trivial (fun _ _ _ h => h) hM (fun w hC => r_loadC hl rfl one29 hC (by repeat (first | exact find_head | apply find_tail)) (by first | rfl)) rfl ?_
          clear hl a; intro a hl
          refine d_take (i := 12) hl rfl (by kernel_rfl) (by kernel_rfl) (by kernel_rfl) (by kernel_rfl) (by kernel_rfl) rfl trivial (fun _ _ _ h => h) hM (fun w hC => r_subM wm_u32 hl rfl rfl) rfl ?_
          clear hl a; intro a hl
          refine d_take (i := 13) hl rfl (by kernel_rfl) (by kernel_rfl) (by kernel_rfl) (by kernel_rfl) (by kernel_rfl) rfl trivial (fun _ _ _ h => h) hM (fun w hC => r_minI hl rfl rfl) rfl ?_
          clear hl a; intro a hl
          refine d_takeL (i := 14) hl rfl (by kernel_rfl) (by kernel_rfl) (by kernel_rfl) (by kernel_rfl) (by kernel_rfl) rfl trivial (fun _ _ _ h => h) (fun w => r_addM wm_u32 hl rfl rfl) rfl ?_
          clear hl a; intro a hl
          refine d_one (i := 15) (by kernel_rfl) rfl ?_
          try clear hM
          refine id (w_store hl hh trivial one29 rfl rfl (by repeat (first | exact find_head | apply find_tail)) (by first | (simp; done) | (simp; omega)) (by first | rfl | assumption | (apply Row.one; assumption)) (by first | (simp only [encC, setL, List.getElem?_cons_zero, List.getElem?_cons_succ, Value.cells, List.take_zero, List.take_succ_cons, List.take_nil, List.drop_zero, List.drop_succ_cons, List.drop_nil, List.length_cons, List.length_nil, List.cons_append, List.nil_append, List.append_nil, Nat.zero_add, Nat.add_zero, Nat.reduceAdd, Nat.reduceBEq, Nat.reduceEqDiff, Nat.ble, BEq.rfl, Bool.and_true, Bool.and_self, cond_true, beq_self_eq_true]; rfl) | (simp only [setL, List.getElem?_cons_zero, List.getElem?_cons_succ, Value.cells, List.take_zero, List.take_succ_cons, List.take_nil, List.drop_zero, List.drop_succ_cons, List.drop_nil, List.length_cons, List.length_nil, List.cons_append, List.nil_append, List.append_nil, Nat.zero_add, Nat.add_zero, Nat.reduceAdd, Nat.reduceBEq, Nat.reduceEqDiff, Nat.ble, BEq.rfl, Bool.and_true, Bool.and_self, cond_true, beq_self_eq_true]; rfl)) ?_)
          clear hh w; intro w hh
          refine d_step (fun h => absurd h (by decide)) ?_
          refine d_done (by kernel_rfl) ?_
          try clear hM
          have hl2 := hl.nil; clear hl; have hl := hl2; clear hl2
          refine blk_normal ?_
          refine ⟨[(k4, C [.int .u32 (pipeH s (pre ++ [x]))] 29), (k1, C [.pointer (some ⟨cp, 0, none⟩)] 24)], ⟨trivial, rfl⟩, hh.keep (by repeat (first | exact keeps_nil | apply keeps_cons (by repeat (first | exact find_head | apply find_tail)) (by first  | (have h9 := pipeS_1 (s := s) (pre := pre) (x := x) (by assumption); exact blk_eq (congrArg (fun z => [Value.int .u32 z]) h9.symm)) | (have h9 := pipeS_2 (s := s) (pre := pre) (x := x) (by assumption); exact blk_eq (congrArg (fun z => [Value.int .u32 z]) h9.symm)) | rfl) | exact keeps_self | exact keeps_left | exact keeps_right | exact keeps_swap | apply keeps_mv))⟩
        · intro hc3
          try simp only [decide_eq_true_eq, decide_eq_false_iff_not, Bool.not_eq_true', Bool.not_eq_false', Bool.not_eq_true, Bool.not_eq_false, Bool.and_eq_true, Bool.or_eq_true, Bool.and_eq_false_iff, Bool.or_eq_false_iff, Bool.not_not, ne_eq, Int.not_lt, Int.not_le, Decidable.not_not, beq_iff_eq, bne_iff_ne] at hc3
          refine i_skip ?_
          refine blk_normal ?_
          refine ⟨[(k4, C [.int .u32 (pipeH s (pre ++ [x]))] 29), (k1, C [.pointer (some ⟨cp, 0, none⟩)] 24)], ⟨trivial, rfl⟩, hh.keep (by repeat (first | exact keeps_nil | apply keeps_cons (by repeat (first | exact find_head | apply find_tail)) (by first  | (have h9 := pipeS_1 (s := s) (pre := pre) (x := x) (by assumption); exact blk_eq (congrArg (fun z => [Value.int .u32 z]) h9.symm)) | (have h9 := pipeS_2 (s := s) (pre := pre) (x := x) (by assumption); exact blk_eq (congrArg (fun z => [Value.int .u32 z]) h9.symm)) | rfl) | exact keeps_self | exact keeps_left | exact keeps_right | exact keeps_swap | apply keeps_mv))⟩
      · intro hc2
        try simp only [decide_eq_true_eq, decide_eq_false_iff_not, Bool.not_eq_true', Bool.not_eq_false', Bool.not_eq_true, Bool.not_eq_false, Bool.and_eq_true, Bool.or_eq_true, Bool.and_eq_false_iff, Bool.or_eq_false_iff, Bool.not_not, ne_eq, Int.not_lt, Int.not_le, Decidable.not_not, beq_iff_eq, bne_iff_ne] at hc2
        rw [pipeT_2 (s := s) (pre := pre) (x := x) hc2] at hh
        refine i_skip ?_
        refine then_normal ?_
        refine i_seq ?_
        refine i_draw [(k5, C [.int .u32 x.s, .int .u32 x.e, .bool x.lost, .bool x.tail] 93), (k1, C [.pointer (some ⟨cp, 0, none⟩)] 24), (cp, C (encC s sp) 66)] [6] mixed (by kernel_rfl) (fun _ _ h => h) hh ?_
        clear hh w; intro w hh
        have hM : Mem [(k5, C [.int .u32 x.s, .int .u32 x.e, .bool x.lost, .bool x.tail] 93), (k1, C [.pointer (some ⟨cp, 0, none⟩)] 24), (cp, C (encC s sp) 66)] w := (Mem.cons hh.mem (by repeat (first | exact find_head | apply find_tail)) (Mem.cons hh.mem (by repeat (first | exact find_head | apply find_tail)) (Mem.consR hh hm9 hcD9 Mem.nil)))
        refine d_take (i := 0) hl rfl (by kernel_rfl) (by kernel_rfl) (by kernel_rfl) (by kernel_rfl) (by kernel_rfl) rfl trivial (fun _ _ _ h => h) hM (fun w hC => r_field hl rfl fld93_0) rfl ?_
        clear hl a; intro a hl
        refine d_take (i := 1) hl rfl (by kernel_rfl) (by kernel_rfl) (by kernel_rfl) (by kernel_rfl) (by kernel_rfl) rfl trivial (fun _ _ _ h => h) hM (fun w hC => r_loadC hl rfl one29 hC (by repeat (first | exact find_head | apply find_tail)) (by first | rfl)) rfl ?_
        clear hl a; intro a hl
        refine d_take (i := 2) hl rfl (by kernel_rfl) (by kernel_rfl) (by kernel_rfl) (by kernel_rfl) (by kernel_rfl) rfl trivial (fun _ _ _ h => h) hM (fun w hC => r_loadC hl rfl one24 hC (by repeat (first | exact find_head | apply find_tail)) (by first | rfl)) rfl ?_
        clear hl a; intro a hl
        refine d_take (i := 3) hl rfl (by kernel_rfl) (by kernel_rfl) (by kernel_rfl) (by kernel_rfl) (by kernel_rfl) rfl trivial (fun _ _ _ h => h) hM (fun w hC => r_nilCheck hl rfl) rfl ?_
        clear hl a; intro a hl
        refine d_take (i := 4) hl rfl (by kernel_rfl) (by kernel_rfl) (by kernel_rfl) (by kernel_rfl) (by kernel_rfl) rfl trivial (fun _ _ _ h => h) hM (fun w hC => r_field hl rfl fld66_10) rfl ?_
        clear hl a; intro a hl
        refine d_take (i := 5) hl rfl (by kernel_rfl) (by kernel_rfl) (by kernel_rfl) (by kernel_rfl) (by kernel_rfl) rfl trivial (fun _ _ _ h => h) hM (fun w hC => r_loadC hl rfl one29 hC (by repeat (first | exact find_head | apply find_tail)) (by first | rfl)) rfl ?_
        clear hl a; intro a hl
        refine d_one (i := 6) (by kernel_rfl) rfl ?_
        try clear hM
        refine id (w_call hl hh rfl trivial rfl cal39 rfl (less_spec _ _) (by repeat (first | exact keeps_nil | apply keeps_cons (by repeat (first | exact find_head | apply find_tail)) (by first  | rfl) | exact keeps_self | exact keeps_left | exact keeps_right | exact keeps_swap | apply keeps_mv)) trivial ?_)
        clear hl hh a w; intro vc Fc a w hR hl hh
        obtain ⟨rfl, rfl⟩ := hR
        try simp only [List.cons_append, List.nil_append] at hh
        refine d_step (fun h => absurd h (by decide)) ?_
        refine d_done (by kernel_rfl) ?_
        try clear hM
        have hl2 := hl.add (t := 1) (hl.add (t := 4) (hl.add (t := 5) (hl.add (t := 65) (hl.nil) rfl) rfl) rfl) rfl; clear hl; have hl := hl2; clear hl2
        refine then_normal ?_
        refine i_cond hl rfl ?_ ?_
        · intro hc3
          try simp only [decide_eq_true_eq, decide_eq_false_iff_not, Bool.not_eq_true', Bool.not_eq_false', Bool.not_eq_true, Bool.not_eq_false, Bool.and_eq_true, Bool.or_eq_true, Bool.and_eq_false_iff, Bool.or_eq_false_iff, Bool.not_not, ne_eq, Int.not_lt, Int.not_le, Decidable.not_not, beq_iff_eq, bne_iff_ne] at hc3
          refine i_draw [(k4, C [.int .u32 (pv1 s pre x)] 29), (k5, C [.int .u32 x.s, .int .u32 x.e, .bool x.lost, .bool x.tail] 93), (k1, C [.pointer (some ⟨cp, 0, none⟩)] 24), (cp, C (encC s sp) 66)] [14, 15] mixed (by kernel_rfl) (fun _ _ h => h) hh ?_
          clear hh w; intro w hh
          have hM : Mem [(k4, C [.int .u32 (pv1 s pre x)] 29), (k5, C [.int .u32 x.s, .int .u32 x.e, .bool x.lost, .bool x.tail] 93), (k1, C [.pointer (some ⟨cp, 0, none⟩)] 24), (cp, C (encC s sp) 66)] w := (Mem.cons hh.mem (by repeat (first | exact find_head | apply find_tail)) (Mem.cons hh.mem (by repeat (first | exact find_head | apply find_tail)) (Mem.cons hh.mem (by repeat (first | exact find_head | apply find_tail)) (Mem.consR hh hm9 hcD9 Mem.nil))))
          refine d_take (i := 0) hl rfl (by kernel_rfl) (by kernel_rfl) (by kernel_rfl) (by kernel_rfl) (by kernel_rfl) rfl trivial (fun _ _ _ h => h) hM (fun w hC => r_loadC hl rfl one29 hC (by repeat (first | exact find_head | apply find_tail)) (by first | rfl)) rfl ?_
          clear hl a; intro a hl
          refine d_take (i := 1) hl rfl (by kernel_rfl) (by kernel_rfl) (by kernel_rfl) (by kernel_rfl) (by kernel_rfl) rfl trivial (fun _ _ _ h => h) hM (fun w hC => r_loadC hl rfl one24 hC (by repeat (first | exact find_head | apply find_tail)) (by first | rfl)) rfl ?_
          clear hl a; intro a hl
          refine d_take (i := 2) hl rfl (by kernel_rfl) (by kernel_rfl) (by kernel_rfl) (by kernel_rfl) (by kernel_rfl) rfl trivial (fun _ _ _ h => h) hM (fun w hC => r_nilCheck hl rfl) rfl ?_
          clear hl a; intro a hl
          refine d_take (i := 3) hl rfl (by kernel_rfl) (by kernel_rfl) (by kernel_rfl) (by kernel_rfl) (by kernel_rfl) rfl trivial (fun _ _ _ h => h) hM (fun w hC => r_field hl rfl fld66_10) rfl ?_
          clear hl a; intro a hl
          refine d_take (i := 4) hl rfl (by kernel_rfl) (by kernel_rfl) (by kernel_rfl) (by kernel_rfl) (by kernel_rfl) rfl trivial (fun _ _ _ h => h) hM (fun w hC => r_loadC hl rfl one29 hC (by repeat (first | exact find_head | apply find_tail)) (by first | rfl)) rfl ?_
          clear hl a; intro a hl
          refine d_take (i := 5) hl rfl (by kernel_rfl) (by kernel_rfl) (by kernel_rfl) (by kernel_rfl) (by kernel_rfl) rfl trivial (fun _ _ _ h => h) hM (fun w hC => r_field hl rfl fld93_0) rfl ?_
          clear hl a; intro a hl
          refine d_take (i := 6) hl rfl (by kernel_rfl) (by kernel_rfl) (by kernel_rfl) (by kernel_rfl) (by kernel_rfl) rfl trivial (fun _ _ _ h => h) hM (fun w hC => r_loadC hl rfl one29 hC (by repeat (first | exact find_head | apply find_tail)) (by first | rfl)) rfl ?_
          clear hl a; intro a hl
          refine d_take (i := 7) hl rfl (by kernel_rfl) (by kernel_rfl) (by kernel_rfl) (by kernel_rfl) (by kernel_rfl) rfl trivial (fun _ _ _ h => h) hM (fun w hC => r_subM wm_u32 hl rfl rfl) rfl ?_
          clear hl a; intro a hl
          refine d_take (i := 8) hl rfl (by kernel_rfl) (by kernel_rfl) (by kernel_rfl) (by kernel_rfl) (by kernel_rfl) rfl trivial (fun _ _ _ h => h) hM (fun w hC => r_field hl rfl fld93_1) rfl ?_
          clear hl a; intro a hl
          refine d_take (i := 9) hl rfl (by kernel_rfl) (by kernel_rfl) (by kernel_rfl) (by kernel_rfl) (by kernel_rfl) rfl trivial (fun _ _ _ h => h) hM (fun w hC => r_loadC hl rfl one29 hC (by repeat (first | exact find_head | apply find_tail)) (by first | rfl)) rfl ?_
          clear hl a; intro a hl
          refine d_take (i := 10) hl rfl (by kernel_rfl) (by kernel_rfl) (by kernel_rfl) (by kernel_rfl) (by kernel_rfl) rfl trivial (fun _ _ _ h => h) hM (fun w hC => r_field hl rfl fld93_0) rfl ?_
          clear hl a; intro a hl
          refine d_take (i := 11) hl rfl (by kernel_rfl) (by kernel_rfl) (by kernel_rfl) (by kernel_rfl) (by kernel_rfl) rfl trivial (fun _ _ _ h => h) hM (fun w hC => r_loadC hl rfl one29 hC (by repeat (first | exact find_head | apply find_tail)) (by first | rfl)) rfl ?_
          clear hl a; intro a hl
          refine d_take (i := 12) hl rfl (by kernel_rfl) (by kernel_rfl) (by kernel_rfl) (by kernel_rfl) (by kernel_rfl) rfl trivial (fun _ _ _ h => h) hM (fun w hC => r_subM wm_u32 hl rfl rfl) rfl ?_
          clear hl a; intro a hl
          refine d_take (i := 13) hl rfl (by kernel_rfl) (by kernel_rfl) (by kernel_rfl) (by kernel_rfl) (by kernel_rfl) rfl trivial (fun _ _ _ h => h) hM (fun w hC => r_minI hl rfl rfl) rfl ?_
          clear hl a; intro a hl
          refine d_takeL (i := 14) hl rfl (by kernel_rfl) (by kernel_rfl) (by kernel_rfl) (by kernel_rfl) (by kernel_rfl) rfl trivial (fun _ _ _ h => h) (fun w => r_addM wm_u32 hl rfl rfl) rfl ?_
          clear hl a; intro a hl
          refine d_one (i := 15) (by kernel_rfl) rfl ?_
          try clear hM
          refine id (w_store hl hh trivial one29 rfl rfl (by repeat (first | exact find_head | apply find_tail)) (by first | (simp; done) | (simp; omega)) (by first | rfl | assumption | (apply Row.one; assumption)) (by first | (simp only [encC, setL, List.getElem?_cons_zero, List.getElem?_cons_succ, Value.cells, List.take_zero, List.take_succ_cons, List.take_nil, List.drop_zero, List.drop_succ_cons, List.drop_nil, List.length_cons, List.length_nil, List.cons_append, List.nil_append, List.append_nil, Nat.zero_add, Nat.add_zero, Nat.reduceAdd, Nat.reduceBEq, Nat.reduceEqDiff, Nat.ble, BEq.rfl, Bool.and_true, Bool.and_self, cond_true, beq_self_eq_true]; rfl) | (simp only [setL, List.getElem?_cons_zero, List.getElem?_cons_succ, Value.cells, List.take_zero, List.take_succ_cons, List.take_nil, List.drop_zero, List.drop_succ_cons, List.drop_nil, List.length_cons, List.length_nil, List.cons_append, List.nil_append, List.append_nil, Nat.zero_add, Nat.add_zero, Nat.reduceAdd, Nat.reduceBEq, Nat.reduceEqDiff, Nat.ble, BEq.rfl, Bool.and_true, Bool.and_self, cond_true, beq_self_eq_true]; rfl)) ?_)
          clear hh w; intro w hh
          refine d_step (fun h => absurd h (by decide)) ?_
          refine d_done (by kernel_rfl) ?_
          try clear hM
          have hl2 := hl.nil; clear hl; have hl := hl2; clear hl2
          refine blk_normal ?_
          refine ⟨[(k4, C [.int .u32 (pipeH s (pre ++ [x]))] 29), (k1, C [.pointer (some ⟨cp, 0, none⟩)] 24)], ⟨trivial, rfl⟩, hh.keep (by repeat (first | exact keeps_nil | apply keeps_cons (by repeat (first | exact find_head | apply find_tail)) (by first  | (have h9 := pipeS_1 (s := s) (pre := pre) (x := x) (by assumption); exact blk_eq (congrArg (fun z => [Value.int .u32 z]) h9.symm)) | (have h9 := pipeS_2 (s := s) (pre := pre) (x := x) (by assumption); exact blk_eq (congrArg (fun z => [Value.int .u32 z]) h9.symm)) | rfl) | exact keeps_self | exact keeps_left | exact keeps_right | exact keeps_swap | apply keeps_mv))⟩
        · intro hc3
          try simp only [decide_eq_true_eq, decide_eq_false_iff_not, Bool.not_eq_true', Bool.not_eq_false', Bool.not_eq_true, Bool.not_eq_false, Bool.and_eq_true, Bool.or_eq_true, Bool.and_eq_false_iff, Bool.or_eq_false_iff, Bool.not_not, ne_eq, Int.not_lt, Int.not_le, Decidable.not_not, beq_iff_eq, bne_iff_ne] at hc3
          refine i_skip ?_
          refine blk_normal ?_
          refine ⟨[(k4, C [.int .u32 (pipeH s (pre ++ [x]))] 29), (k1, C [.pointer (some ⟨cp, 0, none⟩)] 24)], ⟨trivial, rfl⟩, hh.keep (by repeat (first | exact keeps_nil | apply keeps_cons (by repeat (first | exact find_head | apply find_tail)) (by first  | (have h9 := pipeS_1 (s := s) (pre := pre) (x := x) (by assumption); exact blk_eq (congrArg (fun z => [Value.int .u32 z]) h9.symm)) | (have h9 := pipeS_2 (s := s) (pre := pre) (x := x) (by assumption); exact blk_eq (congrArg (fun z => [Value.int .u32 z]) h9.symm)) | rfl) | exact keeps_self | exact keeps_left | exact keeps_right | exact keeps_swap | apply keeps_mv))⟩
    ·
      clear hl hh a w; intro dm a w _ hl hh
      simp only [List.cons_append, List.nil_append] at hh
      refine blk_normal ?_
      refine then_normal ?_
      refine i_seq ?_
      refine i_region ?_
      first | refine wli nofun (fun _ _ h => h) (w_load hl hh rfl trivial one29 rfl (by repeat (first | exact find_head | apply find_tail)) (by first | rfl) ?_) | refine wli nofun (fun _ _ h => h) (w_loadR hl hh rfl trivial one29 rfl hm (by simp) rfl ?_) | refine wli nofun (fun _ _ h => h) (w_loadR hl hh rfl trivial one29 rfl hm9 hcD9 rfl ?_)
      clear hl a; intro a hl
      refine wli nofun (fun _ _ h => h) (wl_val hl rfl trivial (r_assign hl rfl) ?_)
      clear hl a; intro a hl
      refine wi_nil ?_
      have hl2 := hl.add (t := 2) (hl.nil) rfl; clear hl; have hl := hl2; clear hl2
      refine then_normal ?_
      refine i_ret ?_
      refine f_ret1M (F' := []) hl hh (by repeat (first | exact find_head | apply find_tail)) rfl rfl (by repeat (first | exact keeps_nil | apply keeps_cons (by repeat (first | exact find_head | apply find_tail)) (by first  | rfl) | exact keeps_self | exact keeps_left | exact keeps_right | exact keeps_swap | apply keeps_mv)) ?_
      first | exact ⟨congrArg (Value.int .u32) (pipeP_3 (by assumption)), rfl⟩ | exact ⟨congrArg (Value.int .u32) (pipeP_4 (by assumption)), rfl⟩
    ·
      clear hl hh a w; intro dm pre x a4 w4 h1 h2; exact h2.elim
end Go.Proofs.Qxb6500912aGreatDoor

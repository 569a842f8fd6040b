import Derived.Test.Qxb6500912aGreatDoorA7
namespace Go.Proofs.Qxb6500912aGreatDoor
open Go.Eng
set_option linter.unusedVariables false
set_option linter.unusedSimpArgs false
theorem one24 : oneOk Tryz.prog 24 = true := by kernel_rfl
theorem cal68 : callable Tryz.prog 68 = true := by kernel_rfl
theorem zero93 : zeroOk Tryz.prog 93 (.agg #[(.int .u32 0), (.int .u32 0), (.bool false), (.bool false)]) := by unfold zeroOk; kernel_rfl
theorem bld93 : buildOk Tryz.prog 93 [(0, 1), (1, 1), (2, 1), (3, 1)] = true := by kernel_rfl
/-! ## holes -/
structure Hole where
  s : Int
  e : Int
  lost : Bool
  tail : Bool
def hoc (h : Hole) : List Value := [.int .u32 h.s, .int .u32 h.e, .bool h.lost, .bool h.tail]
def hsegP (s : CS) (bl : List (Int × Int)) (a e : Int) (t : Bool) : List Hole :=
  if s.phase = 2 ∧ lessP a s.recov = true ∧ lessP s.recov e = true then [⟨a, s.recov, true, t⟩, ⟨s.recov, e, isLostP s s.recov bl, t⟩] else
  if lessP a e = true then [⟨a, e, isLostP s a bl, t⟩] else []
def holesF (s : CS) (bl : List (Int × Int)) : List (Int × Int) → Int → List Hole
  | [], a => hsegP s bl a s.nxt true
  | b :: r, a => hsegP s bl a b.1 false ++ holesF s bl r b.2
def holesP (s : CS) (bl : List (Int × Int)) : List Hole := holesF s bl bl s.una
section seg
variable {s : CS} {bl : List (Int × Int)} {a e : Int} {t : Bool}
theorem hsegP_1 (h1 : s.phase = 2) (h2 : lessP a s.recov = true) (h3 : lessP s.recov e = true) : hsegP s bl a e t = [⟨a, s.recov, true, t⟩, ⟨s.recov, e, isLostP s s.recov bl, t⟩] := by unfold hsegP; rw [if_pos ⟨h1, h2, h3⟩]
theorem hsegP_2 (h : ¬ (s.phase = 2 ∧ lessP a s.recov = true ∧ lessP s.recov e = true)) (h3 : lessP a e = true) : hsegP s bl a e t = [⟨a, e, isLostP s a bl, t⟩] := by unfold hsegP; rw [if_neg h, if_pos h3]
theorem hsegP_3 (h : ¬ (s.phase = 2 ∧ lessP a s.recov = true ∧ lessP s.recov e = true)) (h3 : lessP a e = false) : hsegP s bl a e t = [] := by unfold hsegP; rw [if_neg h, if_neg (by simp [h3])]
end seg
theorem holesF_drop {s : CS} {bl : List (Int × Int)} {i : Nat} {q : Int × Int} {a : Int} (h : bl[i]? = some q) : holesF s bl (bl.drop i) a = hsegP s bl a q.1 false ++ holesF s bl (bl.drop (i + 1)) q.2 := by
  obtain ⟨hi, rfl⟩ := List.getElem?_eq_some_iff.1 h
  rw [List.drop_eq_getElem_cons hi]; rfl
theorem holesF_end {s : CS} {bl : List (Int × Int)} {i : Nat} {a : Int} (h : bl.length ≤ i) : holesF s bl (bl.drop i) a = hsegP s bl a s.nxt true := by
  rw [List.drop_of_length_le h]; rfl
theorem seg_cons {s : CS} {bl : List (Int × Int)} {a e : Int} {t : Bool} {cur rest all : List Hole} (h : cur ++ (hsegP s bl a e t ++ rest) = all) (hn : ¬ (s.phase = 2 ∧ lessP a s.recov = true ∧ lessP s.recov e = true)) :
    (lessP a e = true → cur ++ (⟨a, e, isLostP s a bl, t⟩ :: rest) = all) ∧ (lessP a e = false → cur ++ rest = all) :=
  ⟨fun h1 => by rw [hsegP_2 hn h1] at h; exact h, fun h1 => by rw [hsegP_3 hn h1] at h; exact h⟩
theorem seg_two {s : CS} {bl : List (Int × Int)} {a e : Int} {t : Bool} {cur rest all : List Hole} (h : cur ++ (hsegP s bl a e t ++ rest) = all) (h1 : s.phase = 2) (h2 : lessP a s.recov = true) (h3 : lessP s.recov e = true) :
    cur ++ (⟨a, s.recov, true, t⟩ :: ⟨s.recov, e, isLostP s s.recov bl, t⟩ :: rest) = all := by rw [hsegP_1 h1 h2 h3] at h; exact h
theorem seg_next {cur rest all : List Hole} {x : Hole} (h : cur ++ (x :: rest) = all) : (cur ++ [x]) ++ rest = all := by rw [← h]; simp
theorem next_ex {Bl : List Hole → List (Nat × Obj)} {Cont : List Hole → Prop} {F : List (Nat × Obj)} {cur rest all : List Hole} {x : Hole} (h : cur ++ (x :: rest) = all) (hc : Cont (cur ++ [x])) (hF : F = Bl (cur ++ [x])) : ∃ z, F = Bl z ∧ Cont z ∧ z ++ rest = all := ⟨_, hF, hc, seg_next h⟩
theorem seg_dead {s : CS} {e : Int} {cur rest all : List Hole} (h3 : lessP s.recov e = true) : lessP s.recov e = false → cur ++ rest = all := fun h => by rw [h3] at h; cases h
theorem not3a {p q r : Prop} (h : ¬ p) : ¬ (p ∧ q ∧ r) := fun h1 => h h1.1
theorem not3b {p r : Prop} {x : Bool} (h : x = false) : ¬ (p ∧ x = true ∧ r) := fun h1 => by rw [h] at h1; cases h1.2.1
theorem not3c {p q : Prop} {x : Bool} (h : x = false) : ¬ (p ∧ q ∧ x = true) := fun h1 => by rw [h] at h1; cases h1.2.2
structure HS where
  i : Nat
  pre : List Hole
  a : Int
theorem pre_of {cur : List Hole} {x : Hole} {r all : List Hole} (h : cur ++ (x :: r) = all) : cur ++ [x] <+: all := ⟨r, by rw [← h]; simp⟩
/-- where the controller lies: 'bl' its blocks -/
structure CtlR (Z : List (Nat × Obj)) (cp : Nat) (s : CS) (sp : Option Addr) (bl : List (Int × Int)) : Prop where
  len : bl.length ≤ 100
  mem : (cp, C (encC s sp) 66) ∈ Z
  brd : (sp = none ∧ bl = []) ∨ ∃ sb bu bn p c E, sp = some ⟨sb, 0, none⟩ ∧ (sb, C (bdL bu bn (.slice p bl.length c)) 85) ∈ Z ∧ Row (.slice p bl.length c) bl.length (fl pc bl) 2 73 E ∧ ∀ x, x ∈ E → x ∈ Z
theorem spk_weak {P : Program} {f : FuncId} {args : Array Value} {Pre Pre' : World → Prop} {F : List (Nat × Obj)} {R R' : Value → List (Nat × Obj) → Prop} (h : SpK P f args Pre F R) (hp : ∀ w, Pre' w → Pre w) (hr : ∀ v F', R v F' → R' v F') : SpK P f args Pre' F R' := fun w h1 h2 h3 =>
  (h w (hp w h1) h2 h3).mono fun e w' he => by
    cases e with
    | returned v => obtain ⟨F', h4, h5⟩ := he; exact ⟨F', hr v F' h4, h5⟩
    | panicked c => exact he
    | outgrown => exact he
theorem sacked_ro {Z : List (Nat × Obj)} {cp : Nat} {s : CS} {sp : Option Addr} {bl : List (Int × Int)} (hZ : CtlR Z cp s sp bl) : SpK Tryz.prog 68 #[.pointer (some ⟨cp, 0, none⟩)] (Mem Z) [] (fun v F' => Row v bl.length (fl pc bl) 2 73 F') := by
  have hm := hZ.mem
  rcases hZ.brd with ⟨rfl, rfl⟩ | ⟨sb, bu, bn, p, c, E, rfl, h1, h2, h3⟩
  · exact spk_weak (sackedN_spec cp s) (fun w h => h _ _ hm) (fun v F' ⟨h4, h5⟩ => by rw [h4, h5]; exact Row.nil _ _)
  · exact spk_weak (sackedS_spec cp s sb bu bn bl hZ.len p c E h2) (fun w h => ⟨h _ _ hm, h _ _ h1, fun b o m => h _ _ (h3 _ m)⟩) (fun _ _ h => h)


set_option maxHeartbeats 1000000 in
theorem holes_spec (cp : Nat) : Sp Tryz.prog 54 #[.pointer (some ⟨cp, 0, none⟩)] [] (fun v F' => ∃ kb, v = .func (.func 67) #[] #[.pointer (some ⟨kb, 0, none⟩)] ∧ F' = [(kb, C [.pointer (some ⟨cp, 0, none⟩)] 24)]) := by
  refine f_enter (args := [.pointer (some ⟨cp, 0, none⟩)]) Tryz.func54 rfl Tryz.ntmps54 rfl ?_
  intro w0 w a hpre hl hh
  simp only [slotsFrom, Nat.reduceAdd] at hl
  refine c_seq ?_
  refine c_region ?_
  refine wl (w_box hl hh rfl trivial rfl rfl ?_)
  clear hl hh a w; intro k1 a w hl hh
  refine wl (wl_val hl rfl trivial (r_assign hl rfl) ?_)
  clear hl a; intro a hl
  refine w_nil ?_
  have hl2 := hl.add (t := 1) (hl.nil) rfl; clear hl; have hl := hl2; clear hl2
  refine then_normal ?_
  refine c_seq ?_
  refine c_region ?_
  refine wl (wl_val hl rfl trivial (r_makeFunc hl rfl) ?_)
  clear hl a; intro a hl
  refine wl (wl_val hl rfl trivial (r_assign hl rfl) ?_)
  clear hl a; intro a hl
  refine w_nil ?_
  have hl2 := hl.add (t := 2) (hl.nil) rfl; clear hl; have hl := hl2; clear hl2
  refine then_normal ?_
  refine wp_ret ?_
  refine f_ret1 (F' := [(k1, C [.pointer (some ⟨cp, 0, none⟩)] 24)]) hl hh rfl rfl (by repeat (first | exact keeps_nil | apply keeps_cons (by repeat (first | exact find_head | apply find_tail)) (by first  | rfl) | exact keeps_self | apply keeps_mv)) ?_
  exact ⟨k1, rfl, rfl⟩

set_option maxHeartbeats 4000000 in
theorem holes1_spec {Z : List (Nat × Obj)} (cp : Nat) (s : CS) (hs : Ok s) (sp : Option Addr) (bl : List (Int × Int)) (hZ : CtlR Z cp s sp bl) (kb l : Nat) (Bl Bx : List Hole → List (Nat × Obj)) (Cont Stop : List Hole → Prop) (hC0 : Cont []) (hdis : ∀ x, x ∈ Z → x.1 ∉ (Bl []).map Prod.fst) (hkD : kb ∉ (Bl []).map Prod.fst) (hy : ∀ pre x, pre ++ [x] <+: holesP s bl → Cont pre → SpY Tryz.prog l #[.agg ⟨hoc x⟩] (Mem Z) (Bl pre) (fun v F' => (v = .bool true ∧ Cont (pre ++ [x]) ∧ F' = Bl (pre ++ [x])) ∨ (v = .bool false ∧ Stop (pre ++ [x]) ∧ F' = Bx (pre ++ [x])))) : SpK Tryz.prog 67 #[.func (.yield l) #[] #[], .pointer (some ⟨kb, 0, none⟩)] (fun w => Mem Z w ∧ w.heap[kb]? = some (C [.pointer (some ⟨cp, 0, none⟩)] 24)) (Bl []) (fun v F' => v = .tuple #[] ∧ ((Cont (holesP s bl) ∧ F' = Bl (holesP s bl)) ∨ ∃ pre x, pre ++ [x] <+: holesP s bl ∧ Stop (pre ++ [x]) ∧ F' = Bx (pre ++ [x]))) := by
  refine f_enter (args := [.func (.yield l) #[] #[], .pointer (some ⟨kb, 0, none⟩)]) Tryz.func67 rfl Tryz.ntmps67 rfl ?_
  intro w0 w a hpre hl hh
  refine (wpIn_wide (n := 0)).1 ?_
  change Code.wpIn (Wr none) 0 _ _ _ _ _
  have o1 := hs.init; have o2 := hs.maxc; have o3 := hs.bn; have o4 := hs.bd; have o5 := hs.abc; have o6 := hs.dupt; have o7 := hs.mss; have o8 := hs.cwnd; have o9 := hs.ssth; have o10 := hs.credit; have o11 := hs.una; have o12 := hs.nxt; have o13 := hs.phase; have o14 := hs.recov; have o15 := hs.high; have o16 := hs.dups; have o17 := flightP_U s
  have hmZ := hpre.1; have hkb := hpre.2; have hmc := hmZ _ _ hZ.mem; have hcD := hdis _ hZ.mem; have hbl := hZ.len
  simp only [slotsFrom, Nat.reduceAdd] at hl
  refine i_seq ?_
  refine i_region ?_
  first | refine wli nofun (fun _ _ h => h) (w_load hl hh rfl trivial one24 rfl (by repeat (first | exact find_head | apply find_tail)) (by first | rfl) ?_) | refine wli nofun (fun _ _ h => h) (w_loadR hl hh rfl trivial one24 rfl hkb hkD rfl ?_) | refine wli nofun (fun _ _ h => h) (w_loadR hl hh rfl trivial one24 rfl hmc hcD rfl ?_) | refine wli nofun (fun _ _ h => h) (wl_val hl rfl trivial (r_load hl rfl one24 (hh.mem _ _ (List.mem_append_left _ hmb)) (by simpa using fl_cell (j := 0) (v := .int .u32 q.1) pc_len hq rfl junk)) ?_) | refine wli nofun (fun _ _ h => h) (wl_val hl rfl trivial (r_load hl rfl one24 (hh.mem _ _ (List.mem_append_left _ hmb)) (by simpa using fl_cell (j := 1) (v := .int .u32 q.2) pc_len hq rfl junk)) ?_)
  clear hl a; intro a hl
  refine wli nofun (fun _ _ h => h) (w_call hl hh rfl trivial rfl cal68 rfl (sacked_ro hZ) (by repeat (first | exact keeps_nil | apply keeps_cons (by repeat (first | exact find_head | apply find_tail)) (by first  | rfl) | exact keeps_self | exact keeps_left | exact keeps_right | exact keeps_swap | apply keeps_mv)) (mem_keepD hh hmZ hdis) ?_)
  clear hl hh a w; intro vc Fc a w hR hl hh
  try simp only [List.cons_append, List.nil_append] at hh
  have hRb := hR
  clear hR
  obtain ⟨pB, cB, hvB⟩ := row_val hRb
  subst hvB
  generalize Fc = Eb at hh hRb
  refine wli nofun (fun _ _ h => h) (wl_val hl rfl trivial (r_assign hl rfl) ?_)
  clear hl a; intro a hl
  refine wi_nil ?_
  have hl2 := hl.add (t := 0) (hl.add (t := 1) (hl.add (t := 3) (hl.nil) rfl) rfl) rfl; clear hl; have hl := hl2; clear hl2
  refine then_normal ?_
  refine i_seq ?_
  refine i_region ?_
  first | refine wli nofun (fun _ _ h => h) (w_load hl hh rfl trivial one24 rfl (by repeat (first | exact find_head | apply find_tail)) (by first | rfl) ?_) | refine wli nofun (fun _ _ h => h) (w_loadR hl hh rfl trivial one24 rfl hkb hkD rfl ?_) | refine wli nofun (fun _ _ h => h) (w_loadR hl hh rfl trivial one24 rfl hmc hcD rfl ?_) | refine wli nofun (fun _ _ h => h) (wl_val hl rfl trivial (r_load hl rfl one24 (hh.mem _ _ (List.mem_append_left _ hmb)) (by simpa using fl_cell (j := 0) (v := .int .u32 q.1) pc_len hq rfl junk)) ?_) | refine wli nofun (fun _ _ h => h) (wl_val hl rfl trivial (r_load hl rfl one24 (hh.mem _ _ (List.mem_append_left _ hmb)) (by simpa using fl_cell (j := 1) (v := .int .u32 q.2) pc_len hq rfl junk)) ?_)
  clear hl a; intro a hl
  refine wli nofun (fun _ _ h => h) (wl_val hl rfl trivial (r_nilCheck hl rfl) ?_)
  clear hl a; intro a hl
  refine wli nofun (fun _ _ h => h) (wl_val hl rfl trivial (r_field hl rfl fld66_6) ?_)
  clear hl a; intro a hl
  first | refine wli nofun (fun _ _ h => h) (w_load hl hh rfl trivial one29 rfl (by repeat (first | exact find_head | apply find_tail)) (by first | rfl) ?_) | refine wli nofun (fun _ _ h => h) (w_loadR hl hh rfl trivial one29 rfl hkb hkD rfl ?_) | refine wli nofun (fun _ _ h => h) (w_loadR hl hh rfl trivial one29 rfl hmc hcD rfl ?_) | refine wli nofun (fun _ _ h => h) (wl_val hl rfl trivial (r_load hl rfl one29 (hh.mem _ _ (List.mem_append_left _ hmb)) (by simpa using fl_cell (j := 0) (v := .int .u32 q.1) pc_len hq rfl junk)) ?_) | refine wli nofun (fun _ _ h => h) (wl_val hl rfl trivial (r_load hl rfl one29 (hh.mem _ _ (List.mem_append_left _ hmb)) (by simpa using fl_cell (j := 1) (v := .int .u32 q.2) pc_len hq rfl junk)) ?_)
  clear hl a; intro a hl
  refine wli nofun (fun _ _ h => h) (wl_val hl rfl trivial (r_assign hl rfl) ?_)
  clear hl a; intro a hl
  refine wi_nil ?_
  have hl2 := hl.add (t := 0) (hl.add (t := 1) (hl.add (t := 3) (hl.add (t := 4) (hl.nil) rfl) rfl) rfl) rfl; clear hl; have hl := hl2; clear hl2
  refine then_normal ?_
  refine i_seq ?_
  refine i_region ?_
  refine wli nofun (fun _ _ h => h) (wl_val hl rfl trivial (r_assign hl rfl) ?_)
  clear hl a; intro a hl
  refine wi_nil ?_
  have hl2 := hl.add (t := 0) (hl.add (t := 1) (hl.add (t := 3) (hl.add (t := 4) (hl.add (t := 5) (hl.nil) rfl) rfl) rfl) rfl) rfl; clear hl; have hl := hl2; clear hl2
  refine then_normal ?_
  refine i_block ?_
  obtain ⟨KS0, hKS0, hk⟩ := (hl.add (t := 0) (hl.add (t := 1) (hl.add (t := 3) (hl.nil) rfl) rfl) rfl).name
  obtain ⟨HS0, hHS0, hh2⟩ := hh.nameT (A := []) (U := (Bl [])) (keeps_right)
  refine i_loop (α := HS) (fun z => bl.length + 1 - z.i) (fun z a w => (Cont z.pre ∧ ((z.i ≤ bl.length ∧ z.pre ++ holesF s bl (bl.drop z.i) z.a = holesP s bl) ∨ (z.i = bl.length + 1 ∧ z.pre = holesP s bl))) ∧ Sl 95 ([(5, .int .i64 (z.i : Int)), (4, .int .u32 z.a)] ++ KS0) a ∧ Has _ w0 ([] ++ (HS0 ++ Bl z.pre)) w) ⟨0, [], s.una⟩ ⟨⟨hC0, .inl ⟨Nat.zero_le _, rfl⟩⟩, hl.addE (t := 5) (hl.addE (t := 4) (hk) rfl (by first | rfl)) rfl (by first | rfl), hh2⟩ ?_
  clear hk hh2 hl hh a w
  intro z a w hI
  obtain ⟨⟨hct, hI⟩, hl, hh⟩ := hI
  subst hKS0; subst hHS0
  simp only [List.cons_append, List.nil_append, List.append_nil] at hl hh
  obtain ⟨i, cur, a_⟩ := z
  simp only at hct hI hl hh
  refine i_seq ?_
  refine i_seq ?_
  refine i_region ?_
  refine wli nofun (fun _ _ h => h) (wl_val hl rfl trivial (r_move hl rfl) ?_)
  clear hl a; intro a hl
  refine wli nofun (fun _ _ h => h) (wl_val hl rfl trivial (r_move hl rfl) ?_)
  clear hl a; intro a hl
  refine wli nofun (fun _ _ h => h) (wl_val hl rfl trivial (r_lenS hl rfl slc48) ?_)
  clear hl a; intro a hl
  refine wli nofun (fun _ _ h => h) (wl_val hl rfl trivial (r_leq hl rfl rfl) ?_)
  clear hl a; intro a hl
  refine wi_nil ?_
  have hl2 := hl.add (t := 0) (hl.add (t := 1) (hl.add (t := 3) (hl.add (t := 4) (hl.add (t := 5) (hl.add (t := 17) (hl.nil) rfl) rfl) rfl) rfl) rfl) rfl; clear hl; have hl := hl2; clear hl2
  refine then_normal ?_
  refine i_cond hl rfl ?_ ?_
  · intro hc0
    try simp only [decide_eq_true_eq, decide_eq_false_iff_not, Bool.not_eq_true', Bool.not_eq_false', Bool.not_eq_true, Bool.not_eq_false, Bool.and_eq_true, Bool.or_eq_true, Bool.and_eq_false_iff, Bool.or_eq_false_iff, Bool.not_not, ne_eq, Int.not_lt, Int.not_le, Decidable.not_not, beq_iff_eq, bne_iff_ne] at hc0
    obtain ⟨hil, hpr⟩ := hI.resolve_right (fun h => by omega)
    refine i_skip ?_
    refine then_normal ?_
    refine i_seq ?_
    refine i_block ?_
    refine i_seq ?_
    refine i_region ?_
    first | refine wli nofun (fun _ _ h => h) (w_load hl hh rfl trivial one24 rfl (by repeat (first | exact find_head | apply find_tail)) (by first | rfl) ?_) | refine wli nofun (fun _ _ h => h) (w_loadR hl hh rfl trivial one24 rfl hkb hkD rfl ?_) | refine wli nofun (fun _ _ h => h) (w_loadR hl hh rfl trivial one24 rfl hmc hcD rfl ?_) | refine wli nofun (fun _ _ h => h) (wl_val hl rfl trivial (r_load hl rfl one24 (hh.mem _ _ (List.mem_append_left _ hmb)) (by simpa using fl_cell (j := 0) (v := .int .u32 q.1) pc_len hq rfl junk)) ?_) | refine wli nofun (fun _ _ h => h) (wl_val hl rfl trivial (r_load hl rfl one24 (hh.mem _ _ (List.mem_append_left _ hmb)) (by simpa using fl_cell (j := 1) (v := .int .u32 q.2) pc_len hq rfl junk)) ?_)
    clear hl a; intro a hl
    refine wli nofun (fun _ _ h => h) (wl_val hl rfl trivial (r_nilCheck hl rfl) ?_)
    clear hl a; intro a hl
    refine wli nofun (fun _ _ h => h) (wl_val hl rfl trivial (r_field hl rfl fld66_7) ?_)
    clear hl a; intro a hl
    first | refine wli nofun (fun _ _ h => h) (w_load hl hh rfl trivial one29 rfl (by repeat (first | exact find_head | apply find_tail)) (by first | rfl) ?_) | refine wli nofun (fun _ _ h => h) (w_loadR hl hh rfl trivial one29 rfl hkb hkD rfl ?_) | refine wli nofun (fun _ _ h => h) (w_loadR hl hh rfl trivial one29 rfl hmc hcD rfl ?_) | refine wli nofun (fun _ _ h => h) (wl_val hl rfl trivial (r_load hl rfl one29 (hh.mem _ _ (List.mem_append_left _ hmb)) (by simpa using fl_cell (j := 0) (v := .int .u32 q.1) pc_len hq rfl junk)) ?_) | refine wli nofun (fun _ _ h => h) (wl_val hl rfl trivial (r_load hl rfl one29 (hh.mem _ _ (List.mem_append_left _ hmb)) (by simpa using fl_cell (j := 1) (v := .int .u32 q.2) pc_len hq rfl junk)) ?_)
    clear hl a; intro a hl
    refine wli nofun (fun _ _ h => h) (wl_val hl rfl trivial (r_assign hl rfl) ?_)
    clear hl a; intro a hl
    refine wi_nil ?_
    have hl2 := hl.add (t := 0) (hl.add (t := 1) (hl.add (t := 3) (hl.add (t := 4) (hl.add (t := 5) (hl.add (t := 6) (hl.nil) rfl) rfl) rfl) rfl) rfl) rfl; clear hl; have hl := hl2; clear hl2
    refine then_normal ?_
    refine i_seq ?_
    refine i_seq ?_
    refine i_region ?_
    refine wli nofun (fun _ _ h => h) (wl_val hl rfl trivial (r_move hl rfl) ?_)
    clear hl a; intro a hl
    refine wli nofun (fun _ _ h => h) (wl_val hl rfl trivial (r_move hl rfl) ?_)
    clear hl a; intro a hl
    refine wli nofun (fun _ _ h => h) (wl_val hl rfl trivial (r_lenS hl rfl slc48) ?_)
    clear hl a; intro a hl
    refine wli nofun (fun _ _ h => h) (wl_val hl rfl trivial (r_lss hl rfl rfl) ?_)
    clear hl a; intro a hl
    refine wi_nil ?_
    have hl2 := hl.add (t := 0) (hl.add (t := 1) (hl.add (t := 3) (hl.add (t := 4) (hl.add (t := 5) (hl.add (t := 6) (hl.add (t := 27) (hl.nil) rfl) rfl) rfl) rfl) rfl) rfl) rfl; clear hl; have hl := hl2; clear hl2
    refine then_normal ?_
    refine i_cond hl rfl ?_ ?_
    · intro hc1
      try simp only [decide_eq_true_eq, decide_eq_false_iff_not, Bool.not_eq_true', Bool.not_eq_false', Bool.not_eq_true, Bool.not_eq_false, Bool.and_eq_true, Bool.or_eq_true, Bool.and_eq_false_iff, Bool.or_eq_false_iff, Bool.not_not, ne_eq, Int.not_lt, Int.not_le, Decidable.not_not, beq_iff_eq, bne_iff_ne] at hc1
      obtain ⟨q, hq⟩ : ∃ q, bl[i]? = some q := ⟨_, List.getElem?_eq_getElem (by omega)⟩
      obtain ⟨b, junk, hpB, hjl, hjc, hEb⟩ := row_pos hRb (by omega)
      subst hpB
      have hmb : (b, C (fl pc bl ++ junk) 73) ∈ HS0 := by rw [hEb]; simp
      obtain ⟨e_, he_⟩ : ∃ z, z = q.1 := ⟨_, rfl⟩
      have htl : decide ((i : Int) = (bl.length : Int)) = false := by simp; omega
      obtain ⟨rest, hrest⟩ : ∃ z, z = holesF s bl (bl.drop (i + 1)) q.2 := ⟨_, rfl⟩
      have htd : cur ++ (hsegP s bl a_ e_ false ++ rest) = holesP s bl := by rw [← hpr, holesF_drop hq, he_, hrest]
      refine i_region ?_
      refine wli nofun (fun _ _ h => h) (wl_val hl rfl trivial (r_move hl rfl) ?_)
      clear hl a; intro a hl
      refine wli nofun (fun _ _ h => h) (wl_val hl rfl trivial (r_move hl rfl) ?_)
      clear hl a; intro a hl
      refine wli nofun (fun _ _ h => h) (wl_val hl rfl trivial (r_indexS hl rfl rfl slc48 (by omega) (by omega) (by first | (simp only [Int.reduceToNat]; rfl) | exact toNat_add1 _ | exact toNat_add2 _ _ | exact toNat_emod _ _ | exact Int.toNat_natCast _ | rfl)) ?_)
      clear hl a; intro a hl
      refine wli nofun (fun _ _ h => h) (wl_val hl rfl trivial (r_field hl rfl fld73_0) ?_)
      clear hl a; intro a hl
      first | refine wli nofun (fun _ _ h => h) (w_load hl hh rfl trivial one29 rfl (by repeat (first | exact find_head | apply find_tail)) (by first | rfl) ?_) | refine wli nofun (fun _ _ h => h) (w_loadR hl hh rfl trivial one29 rfl hkb hkD rfl ?_) | refine wli nofun (fun _ _ h => h) (w_loadR hl hh rfl trivial one29 rfl hmc hcD rfl ?_) | refine wli nofun (fun _ _ h => h) (wl_val hl rfl trivial (r_load hl rfl one29 (hh.mem _ _ (List.mem_append_left _ hmb)) (by simpa using fl_cell (j := 0) (v := .int .u32 q.1) pc_len hq rfl junk)) ?_) | refine wli nofun (fun _ _ h => h) (wl_val hl rfl trivial (r_load hl rfl one29 (hh.mem _ _ (List.mem_append_left _ hmb)) (by simpa using fl_cell (j := 1) (v := .int .u32 q.2) pc_len hq rfl junk)) ?_)
      clear hl a; intro a hl
      refine wli nofun (fun _ _ h => h) (wl_val hl rfl trivial (r_assign hl rfl) ?_)
      clear hl a; intro a hl
      refine wi_nil ?_
      have hl2 := hl.add (t := 0) (hl.add (t := 1) (hl.add (t := 3) (hl.add (t := 4) (hl.add (t := 5) (hl.add (t := 6) (hl.nil) rfl) rfl) rfl) rfl) rfl) rfl; clear hl; have hl := hl2; clear hl2
      rw [← he_] at hl
      refine then_normal ?_
      refine i_seq ?_
      refine i_region ?_
      refine wli nofun (fun _ _ h => h) (wl_val hl rfl trivial (r_move hl rfl) ?_)
      clear hl a; intro a hl
      refine wli nofun (fun _ _ h => h) (wl_val hl rfl trivial (r_move hl rfl) ?_)
      clear hl a; intro a hl
      refine wli nofun (fun _ _ h => h) (wl_val hl rfl trivial (r_lenS hl rfl slc48) ?_)
      clear hl a; intro a hl
      refine wli nofun (fun _ _ h => h) (wl_val hl rfl trivial (r_eql hl rfl rfl) ?_)
      clear hl a; intro a hl
      rw [htl] at hl
      refine wli nofun (fun _ _ h => h) (wl_val hl rfl trivial (r_assign hl rfl) ?_)
      clear hl a; intro a hl
      refine wi_nil ?_
      have hl2 := hl.add (t := 0) (hl.add (t := 1) (hl.add (t := 3) (hl.add (t := 4) (hl.add (t := 5) (hl.add (t := 6) (hl.add (t := 7) (hl.nil) rfl) rfl) rfl) rfl) rfl) rfl) rfl; clear hl; have hl := hl2; clear hl2
      refine then_normal ?_
      refine i_seq ?_
      refine i_seq ?_
      refine i_region ?_
      first | refine wli nofun (fun _ _ h => h) (w_load hl hh rfl trivial one24 rfl (by repeat (first | exact find_head | apply find_tail)) (by first | rfl) ?_) | refine wli nofun (fun _ _ h => h) (w_loadR hl hh rfl trivial one24 rfl hkb hkD rfl ?_) | refine wli nofun (fun _ _ h => h) (w_loadR hl hh rfl trivial one24 rfl hmc hcD rfl ?_) | refine wli nofun (fun _ _ h => h) (wl_val hl rfl trivial (r_load hl rfl one24 (hh.mem _ _ (List.mem_append_left _ hmb)) (by simpa using fl_cell (j := 0) (v := .int .u32 q.1) pc_len hq rfl junk)) ?_) | refine wli nofun (fun _ _ h => h) (wl_val hl rfl trivial (r_load hl rfl one24 (hh.mem _ _ (List.mem_append_left _ hmb)) (by simpa using fl_cell (j := 1) (v := .int .u32 q.2) pc_len hq rfl junk)) ?_)
      clear hl a; intro a hl
      refine wli nofun (fun _ _ h => h) (wl_val hl rfl trivial (r_nilCheck hl rfl) ?_)
      clear hl a; intro a hl
      refine wli nofun (fun _ _ h => h) (wl_val hl rfl trivial (r_field hl rfl fld66_8) ?_)
      clear hl a; intro a hl
      first | refine wli nofun (fun _ _ h => h) (w_load hl hh rfl trivial one59 rfl (by repeat (first | exact find_head | apply find_tail)) (by first | rfl) ?_) | refine wli nofun (fun _ _ h => h) (w_loadR hl hh rfl trivial one59 rfl hkb hkD rfl ?_) | refine wli nofun (fun _ _ h => h) (w_loadR hl hh rfl trivial one59 rfl hmc hcD rfl ?_) | refine wli nofun (fun _ _ h => h) (wl_val hl rfl trivial (r_load hl rfl one59 (hh.mem _ _ (List.mem_append_left _ hmb)) (by simpa using fl_cell (j := 0) (v := .int .u32 q.1) pc_len hq rfl junk)) ?_) | refine wli nofun (fun _ _ h => h) (wl_val hl rfl trivial (r_load hl rfl one59 (hh.mem _ _ (List.mem_append_left _ hmb)) (by simpa using fl_cell (j := 1) (v := .int .u32 q.2) pc_len hq rfl junk)) ?_)
      clear hl a; intro a hl
      refine wli nofun (fun _ _ h => h) (wl_val hl rfl trivial (r_eql hl rfl rfl) ?_)
      clear hl a; intro a hl
      refine wli nofun (fun _ _ h => h) (wl_val hl rfl trivial (r_move hl rfl) ?_)
      clear hl a; intro a hl
      refine sl_split (t := 42) hl rfl ?_ ?_
      · intro hg1; clear hl; intro hl
        try simp only [decide_eq_true_eq, decide_eq_false_iff_not, Bool.not_eq_true', Bool.not_eq_false', Bool.not_eq_true, Bool.not_eq_false, Bool.and_eq_true, Bool.or_eq_true, Bool.and_eq_false_iff, Bool.or_eq_false_iff, Bool.not_not, ne_eq, Int.not_lt, Int.not_le, Decidable.not_not, beq_iff_eq, bne_iff_ne] at hg1
        refine wli nofun (fun _ _ h => h) (wl_val hl rfl ⟨_, _, rfl, rfl, rfl⟩ (r_move hl rfl) ?_)
        clear hl a; intro a hl
        first | refine wli nofun (fun _ _ h => h) (w_load hl hh rfl ⟨_, _, rfl, rfl, rfl⟩ one24 rfl (by repeat (first | exact find_head | apply find_tail)) (by first | rfl) ?_) | refine wli nofun (fun _ _ h => h) (w_loadR hl hh rfl ⟨_, _, rfl, rfl, rfl⟩ one24 rfl hkb hkD rfl ?_) | refine wli nofun (fun _ _ h => h) (w_loadR hl hh rfl ⟨_, _, rfl, rfl, rfl⟩ one24 rfl hmc hcD rfl ?_) | refine wli nofun (fun _ _ h => h) (wl_val hl rfl ⟨_, _, rfl, rfl, rfl⟩ (r_load hl rfl one24 (hh.mem _ _ (List.mem_append_left _ hmb)) (by simpa using fl_cell (j := 0) (v := .int .u32 q.1) pc_len hq rfl junk)) ?_) | refine wli nofun (fun _ _ h => h) (wl_val hl rfl ⟨_, _, rfl, rfl, rfl⟩ (r_load hl rfl one24 (hh.mem _ _ (List.mem_append_left _ hmb)) (by simpa using fl_cell (j := 1) (v := .int .u32 q.2) pc_len hq rfl junk)) ?_)
        clear hl a; intro a hl
        refine wli nofun (fun _ _ h => h) (wl_val hl rfl ⟨_, _, rfl, rfl, rfl⟩ (r_nilCheck hl rfl) ?_)
        clear hl a; intro a hl
        refine wli nofun (fun _ _ h => h) (wl_val hl rfl ⟨_, _, rfl, rfl, rfl⟩ (r_field hl rfl fld66_9) ?_)
        clear hl a; intro a hl
        first | refine wli nofun (fun _ _ h => h) (w_load hl hh rfl ⟨_, _, rfl, rfl, rfl⟩ one29 rfl (by repeat (first | exact find_head | apply find_tail)) (by first | rfl) ?_) | refine wli nofun (fun _ _ h => h) (w_loadR hl hh rfl ⟨_, _, rfl, rfl, rfl⟩ one29 rfl hkb hkD rfl ?_) | refine wli nofun (fun _ _ h => h) (w_loadR hl hh rfl ⟨_, _, rfl, rfl, rfl⟩ one29 rfl hmc hcD rfl ?_) | refine wli nofun (fun _ _ h => h) (wl_val hl rfl ⟨_, _, rfl, rfl, rfl⟩ (r_load hl rfl one29 (hh.mem _ _ (List.mem_append_left _ hmb)) (by simpa using fl_cell (j := 0) (v := .int .u32 q.1) pc_len hq rfl junk)) ?_) | refine wli nofun (fun _ _ h => h) (wl_val hl rfl ⟨_, _, rfl, rfl, rfl⟩ (r_load hl rfl one29 (hh.mem _ _ (List.mem_append_left _ hmb)) (by simpa using fl_cell (j := 1) (v := .int .u32 q.2) pc_len hq rfl junk)) ?_)
        clear hl a; intro a hl
        refine wli nofun (fun _ _ h => h) (w_call hl hh rfl ⟨_, _, rfl, rfl, rfl⟩ rfl cal39 rfl (less_spec _ _) (by repeat (first | exact keeps_nil | apply keeps_cons (by repeat (first | exact find_head | apply find_tail)) (by first  | rfl) | exact keeps_self | exact keeps_left | exact keeps_right | exact keeps_swap | apply keeps_mv)) trivial ?_)
        clear hl hh a w; intro vc Fc a w hR hl hh
        obtain ⟨rfl, rfl⟩ := hR
        try simp only [List.cons_append, List.nil_append] at hh
        refine wli nofun (fun _ _ h => h) (wl_val hl rfl trivial (r_pickT hl rfl rfl) ?_)
        clear hl a; intro a hl
        refine wli nofun (fun _ _ h => h) (wl_val hl rfl trivial (r_move hl rfl) ?_)
        clear hl a; intro a hl
        refine sl_split (t := 50) hl rfl ?_ ?_
        · intro hg2; clear hl; intro hl
          try simp only [decide_eq_true_eq, decide_eq_false_iff_not, Bool.not_eq_true', Bool.not_eq_false', Bool.not_eq_true, Bool.not_eq_false, Bool.and_eq_true, Bool.or_eq_true, Bool.and_eq_false_iff, Bool.or_eq_false_iff, Bool.not_not, ne_eq, Int.not_lt, Int.not_le, Decidable.not_not, beq_iff_eq, bne_iff_ne] at hg2
          first | refine wli nofun (fun _ _ h => h) (w_load hl hh rfl ⟨_, _, rfl, rfl, rfl⟩ one24 rfl (by repeat (first | exact find_head | apply find_tail)) (by first | rfl) ?_) | refine wli nofun (fun _ _ h => h) (w_loadR hl hh rfl ⟨_, _, rfl, rfl, rfl⟩ one24 rfl hkb hkD rfl ?_) | refine wli nofun (fun _ _ h => h) (w_loadR hl hh rfl ⟨_, _, rfl, rfl, rfl⟩ one24 rfl hmc hcD rfl ?_) | refine wli nofun (fun _ _ h => h) (wl_val hl rfl ⟨_, _, rfl, rfl, rfl⟩ (r_load hl rfl one24 (hh.mem _ _ (List.mem_append_left _ hmb)) (by simpa using fl_cell (j := 0) (v := .int .u32 q.1) pc_len hq rfl junk)) ?_) | refine wli nofun (fun _ _ h => h) (wl_val hl rfl ⟨_, _, rfl, rfl, rfl⟩ (r_load hl rfl one24 (hh.mem _ _ (List.mem_append_left _ hmb)) (by simpa using fl_cell (j := 1) (v := .int .u32 q.2) pc_len hq rfl junk)) ?_)
          clear hl a; intro a hl
          refine wli nofun (fun _ _ h => h) (wl_val hl rfl ⟨_, _, rfl, rfl, rfl⟩ (r_nilCheck hl rfl) ?_)
          clear hl a; intro a hl
          refine wli nofun (fun _ _ h => h) (wl_val hl rfl ⟨_, _, rfl, rfl, rfl⟩ (r_field hl rfl fld66_9) ?_)
          clear hl a; intro a hl
          first | refine wli nofun (fun _ _ h => h) (w_load hl hh rfl ⟨_, _, rfl, rfl, rfl⟩ one29 rfl (by repeat (first | exact find_head | apply find_tail)) (by first | rfl) ?_) | refine wli nofun (fun _ _ h => h) (w_loadR hl hh rfl ⟨_, _, rfl, rfl, rfl⟩ one29 rfl hkb hkD rfl ?_) | refine wli nofun (fun _ _ h => h) (w_loadR hl hh rfl ⟨_, _, rfl, rfl, rfl⟩ one29 rfl hmc hcD rfl ?_) | refine wli nofun (fun _ _ h => h) (wl_val hl rfl ⟨_, _, rfl, rfl, rfl⟩ (r_load hl rfl one29 (hh.mem _ _ (List.mem_append_left _ hmb)) (by simpa using fl_cell (j := 0) (v := .int .u32 q.1) pc_len hq rfl junk)) ?_) | refine wli nofun (fun _ _ h => h) (wl_val hl rfl ⟨_, _, rfl, rfl, rfl⟩ (r_load hl rfl one29 (hh.mem _ _ (List.mem_append_left _ hmb)) (by simpa using fl_cell (j := 1) (v := .int .u32 q.2) pc_len hq rfl junk)) ?_)
          clear hl a; intro a hl
          refine wli nofun (fun _ _ h => h) (wl_val hl rfl ⟨_, _, rfl, rfl, rfl⟩ (r_move hl rfl) ?_)
          clear hl a; intro a hl
          refine wli nofun (fun _ _ h => h) (w_call hl hh rfl ⟨_, _, rfl, rfl, rfl⟩ rfl cal39 rfl (less_spec _ _) (by repeat (first | exact keeps_nil | apply keeps_cons (by repeat (first | exact find_head | apply find_tail)) (by first  | rfl) | exact keeps_self | exact keeps_left | exact keeps_right | exact keeps_swap | apply keeps_mv)) trivial ?_)
          clear hl hh a w; intro vc Fc a w hR hl hh
          obtain ⟨rfl, rfl⟩ := hR
          try simp only [List.cons_append, List.nil_append] at hh
          refine wli nofun (fun _ _ h => h) (wl_val hl rfl trivial (r_pickT hl rfl rfl) ?_)
          clear hl a; intro a hl
          refine wi_nil ?_
          have hl2 := hl.add (t := 0) (hl.add (t := 1) (hl.add (t := 3) (hl.add (t := 4) (hl.add (t := 5) (hl.add (t := 6) (hl.add (t := 7) (hl.add (t := 57) (hl.nil) rfl) rfl) rfl) rfl) rfl) rfl) rfl) rfl; clear hl; have hl := hl2; clear hl2
          refine then_normal ?_
          refine i_cond hl rfl ?_ ?_
          · intro hc2
            try simp only [decide_eq_true_eq, decide_eq_false_iff_not, Bool.not_eq_true', Bool.not_eq_false', Bool.not_eq_true, Bool.not_eq_false, Bool.and_eq_true, Bool.or_eq_true, Bool.and_eq_false_iff, Bool.or_eq_false_iff, Bool.not_not, ne_eq, Int.not_lt, Int.not_le, Decidable.not_not, beq_iff_eq, bne_iff_ne] at hc2
            have htd2 := seg_two htd (by assumption) (by assumption) hc2
            have hnil := fun c : List Hole => seg_dead (s := s) (cur := c) (rest := rest) (all := holesP s bl) hc2
            refine i_seq ?_
            refine i_seq ?_
            refine i_region ?_
            refine wli nofun (fun _ _ h => h) (wl_val hl rfl trivial (r_move hl rfl) ?_)
            clear hl a; intro a hl
            refine wli nofun (fun _ _ h => h) (wl_val hl rfl trivial (r_move hl rfl) ?_)
            clear hl a; intro a hl
            first | refine wli nofun (fun _ _ h => h) (w_load hl hh rfl trivial one24 rfl (by repeat (first | exact find_head | apply find_tail)) (by first | rfl) ?_) | refine wli nofun (fun _ _ h => h) (w_loadR hl hh rfl trivial one24 rfl hkb hkD rfl ?_) | refine wli nofun (fun _ _ h => h) (w_loadR hl hh rfl trivial one24 rfl hmc hcD rfl ?_) | refine wli nofun (fun _ _ h => h) (wl_val hl rfl trivial (r_load hl rfl one24 (hh.mem _ _ (List.mem_append_left _ hmb)) (by simpa using fl_cell (j := 0) (v := .int .u32 q.1) pc_len hq rfl junk)) ?_) | refine wli nofun (fun _ _ h => h) (wl_val hl rfl trivial (r_load hl rfl one24 (hh.mem _ _ (List.mem_append_left _ hmb)) (by simpa using fl_cell (j := 1) (v := .int .u32 q.2) pc_len hq rfl junk)) ?_)
            clear hl a; intro a hl
            refine wli nofun (fun _ _ h => h) (wl_val hl rfl trivial (r_nilCheck hl rfl) ?_)
            clear hl a; intro a hl
            refine wli nofun (fun _ _ h => h) (wl_val hl rfl trivial (r_field hl rfl fld66_9) ?_)
            clear hl a; intro a hl
            first | refine wli nofun (fun _ _ h => h) (w_load hl hh rfl trivial one29 rfl (by repeat (first | exact find_head | apply find_tail)) (by first | rfl) ?_) | refine wli nofun (fun _ _ h => h) (w_loadR hl hh rfl trivial one29 rfl hkb hkD rfl ?_) | refine wli nofun (fun _ _ h => h) (w_loadR hl hh rfl trivial one29 rfl hmc hcD rfl ?_) | refine wli nofun (fun _ _ h => h) (wl_val hl rfl trivial (r_load hl rfl one29 (hh.mem _ _ (List.mem_append_left _ hmb)) (by simpa using fl_cell (j := 0) (v := .int .u32 q.1) pc_len hq rfl junk)) ?_) | refine wli nofun (fun _ _ h => h) (wl_val hl rfl trivial (r_load hl rfl one29 (hh.mem _ _ (List.mem_append_left _ hmb)) (by simpa using fl_cell (j := 1) (v := .int .u32 q.2) pc_len hq rfl junk)) ?_)
            clear hl a; intro a hl
            refine wli nofun (fun _ _ h => h) (wl_val hl rfl trivial (r_move hl rfl) ?_)
            clear hl a; intro a hl
            refine wli nofun (fun _ _ h => h) (wl_val hl rfl trivial (r_build hl rfl zero93 bld93 (by simp only [fillL, setL, List.getElem?_cons_zero, List.getElem?_cons_succ, Value.cells, List.take_zero, List.take_succ_cons, List.take_nil, List.drop_zero, List.drop_succ_cons, List.drop_nil, List.length_cons, List.length_nil, List.cons_append, List.nil_append, List.append_nil, Nat.zero_add, Nat.add_zero, Nat.reduceAdd, Nat.reduceBEq, Nat.reduceEqDiff, Nat.ble, BEq.rfl, Bool.and_true, Bool.and_self, cond_true, beq_self_eq_true]; rfl)) ?_)
            clear hl a; intro a hl
            refine wli_yield hl hh rfl trivial rfl rfl (hy cur _ (pre_of htd2) hct) keeps_right (mem_keepD hh hmZ hdis) ?_
            clear hl hh a w; intro vc Fc a w hR hl hh
            rcases hR with ⟨rfl, hc2x, hF⟩ | ⟨rfl, hst, rfl⟩
            ·
              try simp only [List.cons_append, List.nil_append, List.append_nil] at hh
              obtain ⟨cu1, hF1, hct1, htd3⟩ := next_ex htd2 hc2x hF
              subst hF1
              replace hh := hh.comm
              have hcons := fun _ : lessP s.recov e_ = true => htd3
              replace hnil := hnil cu1
              refine wli nofun (fun _ _ h => h) (wl_val hl rfl trivial (r_not hl rfl) ?_)
              clear hl a; intro a hl
              refine wi_nil ?_
              have hl2 := hl.add (t := 0) (hl.add (t := 1) (hl.add (t := 3) (hl.add (t := 5) (hl.add (t := 6) (hl.add (t := 7) (hl.add (t := 67) (hl.nil) rfl) rfl) rfl) rfl) rfl) rfl) rfl; clear hl; have hl := hl2; clear hl2
              refine then_normal ?_
              refine i_condF hl rfl ?_
              refine i_skip ?_
              refine then_normal ?_
              refine i_region ?_
              first | refine wli nofun (fun _ _ h => h) (w_load hl hh rfl trivial one24 rfl (by repeat (first | exact find_head | apply find_tail)) (by first | rfl) ?_) | refine wli nofun (fun _ _ h => h) (w_loadR hl hh rfl trivial one24 rfl hkb hkD rfl ?_) | refine wli nofun (fun _ _ h => h) (w_loadR hl hh rfl trivial one24 rfl hmc hcD rfl ?_) | refine wli nofun (fun _ _ h => h) (wl_val hl rfl trivial (r_load hl rfl one24 (hh.mem _ _ (List.mem_append_left _ hmb)) (by simpa using fl_cell (j := 0) (v := .int .u32 q.1) pc_len hq rfl junk)) ?_) | refine wli nofun (fun _ _ h => h) (wl_val hl rfl trivial (r_load hl rfl one24 (hh.mem _ _ (List.mem_append_left _ hmb)) (by simpa using fl_cell (j := 1) (v := .int .u32 q.2) pc_len hq rfl junk)) ?_)
              clear hl a; intro a hl
              refine wli nofun (fun _ _ h => h) (wl_val hl rfl trivial (r_nilCheck hl rfl) ?_)
              clear hl a; intro a hl
              refine wli nofun (fun _ _ h => h) (wl_val hl rfl trivial (r_field hl rfl fld66_9) ?_)
              clear hl a; intro a hl
              first | refine wli nofun (fun _ _ h => h) (w_load hl hh rfl trivial one29 rfl (by repeat (first | exact find_head | apply find_tail)) (by first | rfl) ?_) | refine wli nofun (fun _ _ h => h) (w_loadR hl hh rfl trivial one29 rfl hkb hkD rfl ?_) | refine wli nofun (fun _ _ h => h) (w_loadR hl hh rfl trivial one29 rfl hmc hcD rfl ?_) | refine wli nofun (fun _ _ h => h) (wl_val hl rfl trivial (r_load hl rfl one29 (hh.mem _ _ (List.mem_append_left _ hmb)) (by simpa using fl_cell (j := 0) (v := .int .u32 q.1) pc_len hq rfl junk)) ?_) | refine wli nofun (fun _ _ h => h) (wl_val hl rfl trivial (r_load hl rfl one29 (hh.mem _ _ (List.mem_append_left _ hmb)) (by simpa using fl_cell (j := 1) (v := .int .u32 q.2) pc_len hq rfl junk)) ?_)
              clear hl a; intro a hl
              refine wli nofun (fun _ _ h => h) (wl_val hl rfl trivial (r_assign hl rfl) ?_)
              clear hl a; intro a hl
              refine wi_nil ?_
              have hl2 := hl.add (t := 0) (hl.add (t := 1) (hl.add (t := 3) (hl.add (t := 4) (hl.add (t := 5) (hl.add (t := 6) (hl.add (t := 7) (hl.nil) rfl) rfl) rfl) rfl) rfl) rfl) rfl; clear hl; have hl := hl2; clear hl2
              refine then_normal ?_
              refine i_seq ?_
              refine i_seq ?_
              refine i_region ?_
              refine wli nofun (fun _ _ h => h) (wl_val hl rfl trivial (r_move hl rfl) ?_)
              clear hl a; intro a hl
              refine wli nofun (fun _ _ h => h) (wl_val hl rfl trivial (r_move hl rfl) ?_)
              clear hl a; intro a hl
              refine wli nofun (fun _ _ h => h) (w_call hl hh rfl trivial rfl cal39 rfl (less_spec _ _) (by repeat (first | exact keeps_nil | apply keeps_cons (by repeat (first | exact find_head | apply find_tail)) (by first  | rfl) | exact keeps_self | exact keeps_left | exact keeps_right | exact keeps_swap | apply keeps_mv)) trivial ?_)
              clear hl hh a w; intro vc Fc a w hR hl hh
              obtain ⟨rfl, rfl⟩ := hR
              try simp only [List.cons_append, List.nil_append] at hh
              refine wli nofun (fun _ _ h => h) (wl_val hl rfl trivial (r_move hl rfl) ?_)
              clear hl a; intro a hl
              refine sl_split (t := 75) hl rfl ?_ ?_
              · intro hg3; clear hl; intro hl
                try simp only [decide_eq_true_eq, decide_eq_false_iff_not, Bool.not_eq_true', Bool.not_eq_false', Bool.not_eq_true, Bool.not_eq_false, Bool.and_eq_true, Bool.or_eq_true, Bool.and_eq_false_iff, Bool.or_eq_false_iff, Bool.not_not, ne_eq, Int.not_lt, Int.not_le, Decidable.not_not, beq_iff_eq, bne_iff_ne] at hg3
                refine wli nofun (fun _ _ h => h) (wl_val hl rfl ⟨_, _, rfl, rfl, rfl⟩ (r_move hl rfl) ?_)
                clear hl a; intro a hl
                refine wli nofun (fun _ _ h => h) (wl_val hl rfl ⟨_, _, rfl, rfl, rfl⟩ (r_move hl rfl) ?_)
                clear hl a; intro a hl
                refine wli nofun (fun _ _ h => h) (wl_val hl rfl ⟨_, _, rfl, rfl, rfl⟩ (r_move hl rfl) ?_)
                clear hl a; intro a hl
                first | refine wli nofun (fun _ _ h => h) (w_load hl hh rfl ⟨_, _, rfl, rfl, rfl⟩ one24 rfl (by repeat (first | exact find_head | apply find_tail)) (by first | rfl) ?_) | refine wli nofun (fun _ _ h => h) (w_loadR hl hh rfl ⟨_, _, rfl, rfl, rfl⟩ one24 rfl hkb hkD rfl ?_) | refine wli nofun (fun _ _ h => h) (w_loadR hl hh rfl ⟨_, _, rfl, rfl, rfl⟩ one24 rfl hmc hcD rfl ?_) | refine wli nofun (fun _ _ h => h) (wl_val hl rfl ⟨_, _, rfl, rfl, rfl⟩ (r_load hl rfl one24 (hh.mem _ _ (List.mem_append_left _ hmb)) (by simpa using fl_cell (j := 0) (v := .int .u32 q.1) pc_len hq rfl junk)) ?_) | refine wli nofun (fun _ _ h => h) (wl_val hl rfl ⟨_, _, rfl, rfl, rfl⟩ (r_load hl rfl one24 (hh.mem _ _ (List.mem_append_left _ hmb)) (by simpa using fl_cell (j := 1) (v := .int .u32 q.2) pc_len hq rfl junk)) ?_)
                clear hl a; intro a hl
                refine wli nofun (fun _ _ h => h) (wl_val hl rfl ⟨_, _, rfl, rfl, rfl⟩ (r_move hl rfl) ?_)
                clear hl a; intro a hl
                refine wli nofun (fun _ _ h => h) (wl_val hl rfl ⟨_, _, rfl, rfl, rfl⟩ (r_move hl rfl) ?_)
                clear hl a; intro a hl
                refine wli nofun (fun _ _ h => h) (w_call hl hh rfl ⟨_, _, rfl, rfl, rfl⟩ rfl cal69 rfl (isLost_spec cp s sp hs _ bl hbl _ cB HS0 hRb) (by repeat (first | exact keeps_nil | apply keeps_cons (by repeat (first | exact find_head | apply find_tail)) (by first  | rfl) | exact keeps_self | exact keeps_left | exact keeps_right | exact keeps_swap | apply keeps_mv)) ⟨hh.old hmc hcD, fun b o m => hh.mem b o (List.mem_append_left _ m)⟩ ?_)
                clear hl hh a w; intro vc Fc a w hR hl hh
                obtain ⟨rfl, rfl⟩ := hR
                try simp only [List.cons_append, List.nil_append] at hh
                refine wli nofun (fun _ _ h => h) (wl_val hl rfl ⟨_, _, rfl, rfl, rfl⟩ (r_move hl rfl) ?_)
                clear hl a; intro a hl
                refine wli nofun (fun _ _ h => h) (wl_val hl rfl ⟨_, _, rfl, rfl, rfl⟩ (r_build hl rfl zero93 bld93 (by simp only [fillL, setL, List.getElem?_cons_zero, List.getElem?_cons_succ, Value.cells, List.take_zero, List.take_succ_cons, List.take_nil, List.drop_zero, List.drop_succ_cons, List.drop_nil, List.length_cons, List.length_nil, List.cons_append, List.nil_append, List.append_nil, Nat.zero_add, Nat.add_zero, Nat.reduceAdd, Nat.reduceBEq, Nat.reduceEqDiff, Nat.ble, BEq.rfl, Bool.and_true, Bool.and_self, cond_true, beq_self_eq_true]; rfl)) ?_)
                clear hl a; intro a hl
                refine wli_yield hl hh rfl ⟨_, _, rfl, rfl, rfl⟩ rfl rfl (hy cu1 _ (pre_of (hcons (by assumption))) hct1) keeps_right (mem_keepD hh hmZ hdis) ?_
                clear hl hh a w; intro vc Fc a w hR hl hh
                rcases hR with ⟨rfl, hc2x, hF⟩ | ⟨rfl, hst, rfl⟩
                ·
                  try simp only [List.cons_append, List.nil_append, List.append_nil] at hh
                  obtain ⟨cu2, hF2, hct9, htd9⟩ := next_ex (hcons (by assumption)) hc2x hF
                  subst hF2
                  replace hh := hh.comm
                  refine wli nofun (fun _ _ h => h) (wl_val hl rfl ⟨_, _, rfl, rfl, rfl⟩ (r_not hl rfl) ?_)
                  clear hl a; intro a hl
                  refine wli nofun (fun _ _ h => h) (wl_val hl rfl trivial (r_pickT hl rfl rfl) ?_)
                  clear hl a; intro a hl
                  refine wi_nil ?_
                  have hl2 := hl.add (t := 0) (hl.add (t := 1) (hl.add (t := 3) (hl.add (t := 4) (hl.add (t := 5) (hl.add (t := 7) (hl.add (t := 87) (hl.nil) rfl) rfl) rfl) rfl) rfl) rfl) rfl; clear hl; have hl := hl2; clear hl2
                  first | have htd8 := htd9 | (obtain ⟨cu2, hcu2⟩ : ∃ z, z = cu1 := ⟨_, rfl⟩; have htd9 : cu2 ++ rest = holesP s bl := (by rw [hcu2]; exact hnil (by assumption)); have hct9 : Cont cu2 := (by rw [hcu2]; exact hct1); rw [← hcu2] at hh) | skip
                  refine then_normal ?_
                  refine i_condF hl rfl ?_
                  refine i_skip ?_
                  refine then_normal ?_
                  refine i_seq ?_
                  refine i_region ?_
                  refine wli nofun (fun _ _ h => h) (wl_val hl rfl trivial (r_move hl rfl) ?_)
                  clear hl a; intro a hl
                  refine wli nofun (fun _ _ h => h) (wl_val hl rfl trivial (r_not hl rfl) ?_)
                  clear hl a; intro a hl
                  refine wi_nil ?_
                  have hl2 := hl.add (t := 0) (hl.add (t := 1) (hl.add (t := 3) (hl.add (t := 4) (hl.add (t := 5) (hl.add (t := 89) (hl.nil) rfl) rfl) rfl) rfl) rfl) rfl; clear hl; have hl := hl2; clear hl2
                  refine then_normal ?_
                  refine i_condT hl rfl ?_
                  have hI9 : ∀ a : Int, a = q.2 → ((i + 1 ≤ bl.length ∧ cu2 ++ holesF s bl (bl.drop (i + 1)) a = holesP s bl) ∨ (i + 1 = bl.length + 1 ∧ cu2 = holesP s bl)) := fun a ha => .inl ⟨by omega, by rw [ha, ← hrest]; exact htd9⟩
                  refine i_region ?_
                  refine wli nofun (fun _ _ h => h) (wl_val hl rfl trivial (r_move hl rfl) ?_)
                  clear hl a; intro a hl
                  refine wli nofun (fun _ _ h => h) (wl_val hl rfl trivial (r_move hl rfl) ?_)
                  clear hl a; intro a hl
                  refine wli nofun (fun _ _ h => h) (wl_val hl rfl trivial (r_indexS hl rfl rfl slc48 (by omega) (by omega) (by first | (simp only [Int.reduceToNat]; rfl) | exact toNat_add1 _ | exact toNat_add2 _ _ | exact toNat_emod _ _ | exact Int.toNat_natCast _ | rfl)) ?_)
                  clear hl a; intro a hl
                  refine wli nofun (fun _ _ h => h) (wl_val hl rfl trivial (r_field hl rfl fld73_1) ?_)
                  clear hl a; intro a hl
                  first | refine wli nofun (fun _ _ h => h) (w_load hl hh rfl trivial one29 rfl (by repeat (first | exact find_head | apply find_tail)) (by first | rfl) ?_) | refine wli nofun (fun _ _ h => h) (w_loadR hl hh rfl trivial one29 rfl hkb hkD rfl ?_) | refine wli nofun (fun _ _ h => h) (w_loadR hl hh rfl trivial one29 rfl hmc hcD rfl ?_) | refine wli nofun (fun _ _ h => h) (wl_val hl rfl trivial (r_load hl rfl one29 (hh.mem _ _ (List.mem_append_left _ hmb)) (by simpa using fl_cell (j := 0) (v := .int .u32 q.1) pc_len hq rfl junk)) ?_) | refine wli nofun (fun _ _ h => h) (wl_val hl rfl trivial (r_load hl rfl one29 (hh.mem _ _ (List.mem_append_left _ hmb)) (by simpa using fl_cell (j := 1) (v := .int .u32 q.2) pc_len hq rfl junk)) ?_)
                  clear hl a; intro a hl
                  refine wli nofun (fun _ _ h => h) (wl_val hl rfl trivial (r_assign hl rfl) ?_)
                  clear hl a; intro a hl
                  refine wi_nil ?_
                  have hl2 := hl.add (t := 0) (hl.add (t := 1) (hl.add (t := 3) (hl.add (t := 4) (hl.add (t := 5) (hl.nil) rfl) rfl) rfl) rfl) rfl; clear hl; have hl := hl2; clear hl2
                  refine blk_normal ?_
                  refine then_normal ?_
                  refine i_region ?_
                  refine wli nofun (fun _ _ h => h) (wl_val hl rfl trivial (r_move hl rfl) ?_)
                  clear hl a; intro a hl
                  first | refine wli nofun (fun _ _ h => h) (wl_val hl rfl trivial (r_add hl rfl rfl (by simp only [Fits]; omega)) ?_) | refine wli nofun (fun _ _ h => h) (wl_val hl rfl trivial (r_addW hl rfl rfl) ?_)
                  clear hl a; intro a hl
                  refine wli nofun (fun _ _ h => h) (wl_val hl rfl trivial (r_assign hl rfl) ?_)
                  clear hl a; intro a hl
                  refine wi_nil ?_
                  have hl2 := hl.add (t := 0) (hl.add (t := 1) (hl.add (t := 3) (hl.add (t := 4) (hl.add (t := 5) (hl.nil) rfl) rfl) rfl) rfl) rfl; clear hl; have hl := hl2; clear hl2
                  refine then_normal ?_
                  refine ⟨⟨i + 1, cu2, _⟩, (by simp only; omega), ⟨hct9, hI9 _ rfl⟩, hl.addE (t := 5) (hl.addE (t := 4) (hl.addE (t := 0) (hl.addE (t := 1) (hl.addE (t := 3) (hl.nil) rfl (by first | rfl | exact congrArg (Value.int .i64) (i_succ i))) rfl (by first | rfl | exact congrArg (Value.int .i64) (i_succ i))) rfl (by first | rfl | exact congrArg (Value.int .i64) (i_succ i))) rfl (by first | rfl | exact congrArg (Value.int .i64) (i_succ i))) rfl (by first | rfl | exact congrArg (Value.int .i64) (i_succ i)), hh.keep (by repeat (first | exact keeps_nil | apply keeps_cons (by repeat (first | exact find_head | apply find_tail)) (by first  | rfl) | exact keeps_self | exact keeps_left | exact keeps_right | exact keeps_swap | apply keeps_mv))⟩
                ·
                  try simp only [List.cons_append, List.nil_append, List.append_nil] at hh
                  replace hh := hh.comm
                  refine wli nofun (fun _ _ h => h) (wl_val hl rfl ⟨_, _, rfl, rfl, rfl⟩ (r_not hl rfl) ?_)
                  clear hl a; intro a hl
                  refine wli nofun (fun _ _ h => h) (wl_val hl rfl trivial (r_pickT hl rfl rfl) ?_)
                  clear hl a; intro a hl
                  refine wi_nil ?_
                  have hl2 := hl.add (t := 0) (hl.add (t := 1) (hl.add (t := 3) (hl.add (t := 4) (hl.add (t := 5) (hl.add (t := 7) (hl.add (t := 87) (hl.nil) rfl) rfl) rfl) rfl) rfl) rfl) rfl; clear hl; have hl := hl2; clear hl2
                  first | have htd8 := htd9 | (obtain ⟨cu2, hcu2⟩ : ∃ z, z = cu1 := ⟨_, rfl⟩; have htd9 : cu2 ++ rest = holesP s bl := (by rw [hcu2]; exact hnil (by assumption)); have hct9 : Cont cu2 := (by rw [hcu2]; exact hct1); rw [← hcu2] at hh) | skip
                  refine then_normal ?_
                  refine i_condT hl rfl ?_
                  refine i_ret ?_
                  refine then_ret ?_
                  refine blk_ret ?_
                  refine then_ret ?_
                  refine then_ret ?_
                  refine blk_ret ?_
                  refine f_ret0 (F' := Bx (cu1 ++ [_])) hl hh rfl (by repeat (first | exact keeps_nil | apply keeps_cons (by repeat (first | exact find_head | apply find_tail)) (by first  | rfl) | exact keeps_self | exact keeps_left | exact keeps_right | exact keeps_swap | apply keeps_mv)) ?_
                  exact ⟨rfl, .inr ⟨cu1, _, pre_of (hcons (by assumption)), hst, rfl⟩⟩
              · intro hg3; clear hl; intro hl
                try simp only [decide_eq_true_eq, decide_eq_false_iff_not, Bool.not_eq_true', Bool.not_eq_false', Bool.not_eq_true, Bool.not_eq_false, Bool.and_eq_true, Bool.or_eq_true, Bool.and_eq_false_iff, Bool.or_eq_false_iff, Bool.not_not, ne_eq, Int.not_lt, Int.not_le, Decidable.not_not, beq_iff_eq, bne_iff_ne] at hg3
                refine wli nofun (fun _ _ h => h) (wl_skip hl rfl ⟨_, _, rfl, rfl, rfl⟩ ?_)
                clear hl a; intro a hl
                refine wli nofun (fun _ _ h => h) (wl_skip hl rfl ⟨_, _, rfl, rfl, rfl⟩ ?_)
                clear hl a; intro a hl
                refine wli nofun (fun _ _ h => h) (wl_skip hl rfl ⟨_, _, rfl, rfl, rfl⟩ ?_)
                clear hl a; intro a hl
                refine wli nofun (fun _ _ h => h) (wl_skip hl rfl ⟨_, _, rfl, rfl, rfl⟩ ?_)
                clear hl a; intro a hl
                refine wli nofun (fun _ _ h => h) (wl_skip hl rfl ⟨_, _, rfl, rfl, rfl⟩ ?_)
                clear hl a; intro a hl
                refine wli nofun (fun _ _ h => h) (wl_skip hl rfl ⟨_, _, rfl, rfl, rfl⟩ ?_)
                clear hl a; intro a hl
                refine wli nofun (fun _ _ h => h) (wl_skip hl rfl ⟨_, _, rfl, rfl, rfl⟩ ?_)
                clear hl a; intro a hl
                refine wli nofun (fun _ _ h => h) (wl_skip hl rfl ⟨_, _, rfl, rfl, rfl⟩ ?_)
                clear hl a; intro a hl
                refine wli nofun (fun _ _ h => h) (wl_skip hl rfl ⟨_, _, rfl, rfl, rfl⟩ ?_)
                clear hl a; intro a hl
                refine wli nofun (fun _ _ h => h) (wl_skip hl rfl ⟨_, _, rfl, rfl, rfl⟩ ?_)
                clear hl a; intro a hl
                refine wli nofun (fun _ _ h => h) (wl_skip hl rfl ⟨_, _, rfl, rfl, rfl⟩ ?_)
                clear hl a; intro a hl
                refine wli nofun (fun _ _ h => h) (wl_val hl rfl trivial (r_pickF hl rfl rfl) ?_)
                clear hl a; intro a hl
                refine wi_nil ?_
                have hl2 := hl.add (t := 0) (hl.add (t := 1) (hl.add (t := 3) (hl.add (t := 4) (hl.add (t := 5) (hl.add (t := 7) (hl.add (t := 87) (hl.nil) rfl) rfl) rfl) rfl) rfl) rfl) rfl; clear hl; have hl := hl2; clear hl2
                first | have htd8 := htd9 | (obtain ⟨cu2, hcu2⟩ : ∃ z, z = cu1 := ⟨_, rfl⟩; have htd9 : cu2 ++ rest = holesP s bl := (by rw [hcu2]; exact hnil (by assumption)); have hct9 : Cont cu2 := (by rw [hcu2]; exact hct1); rw [← hcu2] at hh) | skip
                refine then_normal ?_
                refine i_condF hl rfl ?_
                refine i_skip ?_
                refine then_normal ?_
                refine i_seq ?_
                refine i_region ?_
                refine wli nofun (fun _ _ h => h) (wl_val hl rfl trivial (r_move hl rfl) ?_)
                clear hl a; intro a hl
                refine wli nofun (fun _ _ h => h) (wl_val hl rfl trivial (r_not hl rfl) ?_)
                clear hl a; intro a hl
                refine wi_nil ?_
                have hl2 := hl.add (t := 0) (hl.add (t := 1) (hl.add (t := 3) (hl.add (t := 4) (hl.add (t := 5) (hl.add (t := 89) (hl.nil) rfl) rfl) rfl) rfl) rfl) rfl; clear hl; have hl := hl2; clear hl2
                refine then_normal ?_
                refine i_condT hl rfl ?_
                have hI9 : ∀ a : Int, a = q.2 → ((i + 1 ≤ bl.length ∧ cu2 ++ holesF s bl (bl.drop (i + 1)) a = holesP s bl) ∨ (i + 1 = bl.length + 1 ∧ cu2 = holesP s bl)) := fun a ha => .inl ⟨by omega, by rw [ha, ← hrest]; exact htd9⟩
                refine i_region ?_
                refine wli nofun (fun _ _ h => h) (wl_val hl rfl trivial (r_move hl rfl) ?_)
                clear hl a; intro a hl
                refine wli nofun (fun _ _ h => h) (wl_val hl rfl trivial (r_move hl rfl) ?_)
                clear hl a; intro a hl
                refine wli nofun (fun _ _ h => h) (wl_val hl rfl trivial (r_indexS hl rfl rfl slc48 (by omega) (by omega) (by first | (simp only [Int.reduceToNat]; rfl) | exact toNat_add1 _ | exact toNat_add2 _ _ | exact toNat_emod _ _ | exact Int.toNat_natCast _ | rfl)) ?_)
                clear hl a; intro a hl
                refine wli nofun (fun _ _ h => h) (wl_val hl rfl trivial (r_field hl rfl fld73_1) ?_)
                clear hl a; intro a hl
                first | refine wli nofun (fun _ _ h => h) (w_load hl hh rfl trivial one29 rfl (by repeat (first | exact find_head | apply find_tail)) (by first | rfl) ?_) | refine wli nofun (fun _ _ h => h) (w_loadR hl hh rfl trivial one29 rfl hkb hkD rfl ?_) | refine wli nofun (fun _ _ h => h) (w_loadR hl hh rfl trivial one29 rfl hmc hcD rfl ?_) | refine wli nofun (fun _ _ h => h) (wl_val hl rfl trivial (r_load hl rfl one29 (hh.mem _ _ (List.mem_append_left _ hmb)) (by simpa using fl_cell (j := 0) (v := .int .u32 q.1) pc_len hq rfl junk)) ?_) | refine wli nofun (fun _ _ h => h) (wl_val hl rfl trivial (r_load hl rfl one29 (hh.mem _ _ (List.mem_append_left _ hmb)) (by simpa using fl_cell (j := 1) (v := .int .u32 q.2) pc_len hq rfl junk)) ?_)
                clear hl a; intro a hl
                refine wli nofun (fun _ _ h => h) (wl_val hl rfl trivial (r_assign hl rfl) ?_)
                clear hl a; intro a hl
                refine wi_nil ?_
                have hl2 := hl.add (t := 0) (hl.add (t := 1) (hl.add (t := 3) (hl.add (t := 4) (hl.add (t := 5) (hl.nil) rfl) rfl) rfl) rfl) rfl; clear hl; have hl := hl2; clear hl2
                refine blk_normal ?_
                refine then_normal ?_
                refine i_region ?_
                refine wli nofun (fun _ _ h => h) (wl_val hl rfl trivial (r_move hl rfl) ?_)
                clear hl a; intro a hl
                first | refine wli nofun (fun _ _ h => h) (wl_val hl rfl trivial (r_add hl rfl rfl (by simp only [Fits]; omega)) ?_) | refine wli nofun (fun _ _ h => h) (wl_val hl rfl trivial (r_addW hl rfl rfl) ?_)
                clear hl a; intro a hl
                refine wli nofun (fun _ _ h => h) (wl_val hl rfl trivial (r_assign hl rfl) ?_)
                clear hl a; intro a hl
                refine wi_nil ?_
                have hl2 := hl.add (t := 0) (hl.add (t := 1) (hl.add (t := 3) (hl.add (t := 4) (hl.add (t := 5) (hl.nil) rfl) rfl) rfl) rfl) rfl; clear hl; have hl := hl2; clear hl2
                refine then_normal ?_
                refine ⟨⟨i + 1, cu2, _⟩, (by simp only; omega), ⟨hct9, hI9 _ rfl⟩, hl.addE (t := 5) (hl.addE (t := 4) (hl.addE (t := 0) (hl.addE (t := 1) (hl.addE (t := 3) (hl.nil) rfl (by first | rfl | exact congrArg (Value.int .i64) (i_succ i))) rfl (by first | rfl | exact congrArg (Value.int .i64) (i_succ i))) rfl (by first | rfl | exact congrArg (Value.int .i64) (i_succ i))) rfl (by first | rfl | exact congrArg (Value.int .i64) (i_succ i))) rfl (by first | rfl | exact congrArg (Value.int .i64) (i_succ i)), hh.keep (by repeat (first | exact keeps_nil | apply keeps_cons (by repeat (first | exact find_head | apply find_tail)) (by first  | rfl) | exact keeps_self | exact keeps_left | exact keeps_right | exact keeps_swap | apply keeps_mv))⟩
            ·
              try simp only [List.cons_append, List.nil_append, List.append_nil] at hh
              replace hh := hh.comm
              refine wli nofun (fun _ _ h => h) (wl_val hl rfl trivial (r_not hl rfl) ?_)
              clear hl a; intro a hl
              refine wi_nil ?_
              have hl2 := hl.add (t := 0) (hl.add (t := 1) (hl.add (t := 3) (hl.add (t := 5) (hl.add (t := 6) (hl.add (t := 7) (hl.add (t := 67) (hl.nil) rfl) rfl) rfl) rfl) rfl) rfl) rfl; clear hl; have hl := hl2; clear hl2
              refine then_normal ?_
              refine i_condT hl rfl ?_
              refine i_ret ?_
              refine then_ret ?_
              refine then_ret ?_
              refine blk_ret ?_
              refine then_ret ?_
              refine then_ret ?_
              refine blk_ret ?_
              refine f_ret0 (F' := Bx (cur ++ [_])) hl hh rfl (by repeat (first | exact keeps_nil | apply keeps_cons (by repeat (first | exact find_head | apply find_tail)) (by first  | rfl) | exact keeps_self | exact keeps_left | exact keeps_right | exact keeps_swap | apply keeps_mv)) ?_
              exact ⟨rfl, .inr ⟨cur, _, pre_of htd2, hst, rfl⟩⟩
          · intro hc2
            try simp only [decide_eq_true_eq, decide_eq_false_iff_not, Bool.not_eq_true', Bool.not_eq_false', Bool.not_eq_true, Bool.not_eq_false, Bool.and_eq_true, Bool.or_eq_true, Bool.and_eq_false_iff, Bool.or_eq_false_iff, Bool.not_not, ne_eq, Int.not_lt, Int.not_le, Decidable.not_not, beq_iff_eq, bne_iff_ne] at hc2
            have hnot : ¬ (s.phase = 2 ∧ lessP a_ s.recov = true ∧ lessP s.recov e_ = true) := by first | exact not3a (by assumption) | exact not3b (by assumption) | exact not3c (by assumption)
            obtain ⟨cu1, hcu1⟩ : ∃ z, z = cur := ⟨_, rfl⟩
            rw [← hcu1] at hh htd
            have hct1 : Cont cu1 := by rw [hcu1]; exact hct
            obtain ⟨hcons, hnil⟩ := seg_cons htd hnot
            refine i_skip ?_
            refine then_normal ?_
            refine i_seq ?_
            refine i_seq ?_
            refine i_region ?_
            refine wli nofun (fun _ _ h => h) (wl_val hl rfl trivial (r_move hl rfl) ?_)
            clear hl a; intro a hl
            refine wli nofun (fun _ _ h => h) (wl_val hl rfl trivial (r_move hl rfl) ?_)
            clear hl a; intro a hl
            refine wli nofun (fun _ _ h => h) (w_call hl hh rfl trivial rfl cal39 rfl (less_spec _ _) (by repeat (first | exact keeps_nil | apply keeps_cons (by repeat (first | exact find_head | apply find_tail)) (by first  | rfl) | exact keeps_self | exact keeps_left | exact keeps_right | exact keeps_swap | apply keeps_mv)) trivial ?_)
            clear hl hh a w; intro vc Fc a w hR hl hh
            obtain ⟨rfl, rfl⟩ := hR
            try simp only [List.cons_append, List.nil_append] at hh
            refine wli nofun (fun _ _ h => h) (wl_val hl rfl trivial (r_move hl rfl) ?_)
            clear hl a; intro a hl
            refine sl_split (t := 75) hl rfl ?_ ?_
            · intro hg4; clear hl; intro hl
              try simp only [decide_eq_true_eq, decide_eq_false_iff_not, Bool.not_eq_true', Bool.not_eq_false', Bool.not_eq_true, Bool.not_eq_false, Bool.and_eq_true, Bool.or_eq_true, Bool.and_eq_false_iff, Bool.or_eq_false_iff, Bool.not_not, ne_eq, Int.not_lt, Int.not_le, Decidable.not_not, beq_iff_eq, bne_iff_ne] at hg4
              refine wli nofun (fun _ _ h => h) (wl_val hl rfl ⟨_, _, rfl, rfl, rfl⟩ (r_move hl rfl) ?_)
              clear hl a; intro a hl
              refine wli nofun (fun _ _ h => h) (wl_val hl rfl ⟨_, _, rfl, rfl, rfl⟩ (r_move hl rfl) ?_)
              clear hl a; intro a hl
              refine wli nofun (fun _ _ h => h) (wl_val hl rfl ⟨_, _, rfl, rfl, rfl⟩ (r_move hl rfl) ?_)
              clear hl a; intro a hl
              first | refine wli nofun (fun _ _ h => h) (w_load hl hh rfl ⟨_, _, rfl, rfl, rfl⟩ one24 rfl (by repeat (first | exact find_head | apply find_tail)) (by first | rfl) ?_) | refine wli nofun (fun _ _ h => h) (w_loadR hl hh rfl ⟨_, _, rfl, rfl, rfl⟩ one24 rfl hkb hkD rfl ?_) | refine wli nofun (fun _ _ h => h) (w_loadR hl hh rfl ⟨_, _, rfl, rfl, rfl⟩ one24 rfl hmc hcD rfl ?_) | refine wli nofun (fun _ _ h => h) (wl_val hl rfl ⟨_, _, rfl, rfl, rfl⟩ (r_load hl rfl one24 (hh.mem _ _ (List.mem_append_left _ hmb)) (by simpa using fl_cell (j := 0) (v := .int .u32 q.1) pc_len hq rfl junk)) ?_) | refine wli nofun (fun _ _ h => h) (wl_val hl rfl ⟨_, _, rfl, rfl, rfl⟩ (r_load hl rfl one24 (hh.mem _ _ (List.mem_append_left _ hmb)) (by simpa using fl_cell (j := 1) (v := .int .u32 q.2) pc_len hq rfl junk)) ?_)
              clear hl a; intro a hl
              refine wli nofun (fun _ _ h => h) (wl_val hl rfl ⟨_, _, rfl, rfl, rfl⟩ (r_move hl rfl) ?_)
              clear hl a; intro a hl
              refine wli nofun (fun _ _ h => h) (wl_val hl rfl ⟨_, _, rfl, rfl, rfl⟩ (r_move hl rfl) ?_)
              clear hl a; intro a hl
              refine wli nofun (fun _ _ h => h) (w_call hl hh rfl ⟨_, _, rfl, rfl, rfl⟩ rfl cal69 rfl (isLost_spec cp s sp hs _ bl hbl _ cB HS0 hRb) (by repeat (first | exact keeps_nil | apply keeps_cons (by repeat (first | exact find_head | apply find_tail)) (by first  | rfl) | exact keeps_self | exact keeps_left | exact keeps_right | exact keeps_swap | apply keeps_mv)) ⟨hh.old hmc hcD, fun b o m => hh.mem b o (List.mem_append_left _ m)⟩ ?_)
              clear hl hh a w; intro vc Fc a w hR hl hh
              obtain ⟨rfl, rfl⟩ := hR
              try simp only [List.cons_append, List.nil_append] at hh
              refine wli nofun (fun _ _ h => h) (wl_val hl rfl ⟨_, _, rfl, rfl, rfl⟩ (r_move hl rfl) ?_)
              clear hl a; intro a hl
              refine wli nofun (fun _ _ h => h) (wl_val hl rfl ⟨_, _, rfl, rfl, rfl⟩ (r_build hl rfl zero93 bld93 (by simp only [fillL, setL, List.getElem?_cons_zero, List.getElem?_cons_succ, Value.cells, List.take_zero, List.take_succ_cons, List.take_nil, List.drop_zero, List.drop_succ_cons, List.drop_nil, List.length_cons, List.length_nil, List.cons_append, List.nil_append, List.append_nil, Nat.zero_add, Nat.add_zero, Nat.reduceAdd, Nat.reduceBEq, Nat.reduceEqDiff, Nat.ble, BEq.rfl, Bool.and_true, Bool.and_self, cond_true, beq_self_eq_true]; rfl)) ?_)
              clear hl a; intro a hl
              refine wli_yield hl hh rfl ⟨_, _, rfl, rfl, rfl⟩ rfl rfl (hy cu1 _ (pre_of (hcons (by assumption))) hct1) keeps_right (mem_keepD hh hmZ hdis) ?_
              clear hl hh a w; intro vc Fc a w hR hl hh
              rcases hR with ⟨rfl, hc2x, hF⟩ | ⟨rfl, hst, rfl⟩
              ·
                try simp only [List.cons_append, List.nil_append, List.append_nil] at hh
                obtain ⟨cu2, hF2, hct9, htd9⟩ := next_ex (hcons (by assumption)) hc2x hF
                subst hF2
                replace hh := hh.comm
                refine wli nofun (fun _ _ h => h) (wl_val hl rfl ⟨_, _, rfl, rfl, rfl⟩ (r_not hl rfl) ?_)
                clear hl a; intro a hl
                refine wli nofun (fun _ _ h => h) (wl_val hl rfl trivial (r_pickT hl rfl rfl) ?_)
                clear hl a; intro a hl
                refine wi_nil ?_
                have hl2 := hl.add (t := 0) (hl.add (t := 1) (hl.add (t := 3) (hl.add (t := 4) (hl.add (t := 5) (hl.add (t := 7) (hl.add (t := 87) (hl.nil) rfl) rfl) rfl) rfl) rfl) rfl) rfl; clear hl; have hl := hl2; clear hl2
                first | have htd8 := htd9 | (obtain ⟨cu2, hcu2⟩ : ∃ z, z = cu1 := ⟨_, rfl⟩; have htd9 : cu2 ++ rest = holesP s bl := (by rw [hcu2]; exact hnil (by assumption)); have hct9 : Cont cu2 := (by rw [hcu2]; exact hct1); rw [← hcu2] at hh) | skip
                refine then_normal ?_
                refine i_condF hl rfl ?_
                refine i_skip ?_
                refine then_normal ?_
                refine i_seq ?_
                refine i_region ?_
                refine wli nofun (fun _ _ h => h) (wl_val hl rfl trivial (r_move hl rfl) ?_)
                clear hl a; intro a hl
                refine wli nofun (fun _ _ h => h) (wl_val hl rfl trivial (r_not hl rfl) ?_)
                clear hl a; intro a hl
                refine wi_nil ?_
                have hl2 := hl.add (t := 0) (hl.add (t := 1) (hl.add (t := 3) (hl.add (t := 4) (hl.add (t := 5) (hl.add (t := 89) (hl.nil) rfl) rfl) rfl) rfl) rfl) rfl; clear hl; have hl := hl2; clear hl2
                refine then_normal ?_
                refine i_condT hl rfl ?_
                have hI9 : ∀ a : Int, a = q.2 → ((i + 1 ≤ bl.length ∧ cu2 ++ holesF s bl (bl.drop (i + 1)) a = holesP s bl) ∨ (i + 1 = bl.length + 1 ∧ cu2 = holesP s bl)) := fun a ha => .inl ⟨by omega, by rw [ha, ← hrest]; exact htd9⟩
                refine i_region ?_
                refine wli nofun (fun _ _ h => h) (wl_val hl rfl trivial (r_move hl rfl) ?_)
                clear hl a; intro a hl
                refine wli nofun (fun _ _ h => h) (wl_val hl rfl trivial (r_move hl rfl) ?_)
                clear hl a; intro a hl
                refine wli nofun (fun _ _ h => h) (wl_val hl rfl trivial (r_indexS hl rfl rfl slc48 (by omega) (by omega) (by first | (simp only [Int.reduceToNat]; rfl) | exact toNat_add1 _ | exact toNat_add2 _ _ | exact toNat_emod _ _ | exact Int.toNat_natCast _ | rfl)) ?_)
                clear hl a; intro a hl
                refine wli nofun (fun _ _ h => h) (wl_val hl rfl trivial (r_field hl rfl fld73_1) ?_)
                clear hl a; intro a hl
                first | refine wli nofun (fun _ _ h => h) (w_load hl hh rfl trivial one29 rfl (by repeat (first | exact find_head | apply find_tail)) (by first | rfl) ?_) | refine wli nofun (fun _ _ h => h) (w_loadR hl hh rfl trivial one29 rfl hkb hkD rfl ?_) | refine wli nofun (fun _ _ h => h) (w_loadR hl hh rfl trivial one29 rfl hmc hcD rfl ?_) | refine wli nofun (fun _ _ h => h) (wl_val hl rfl trivial (r_load hl rfl one29 (hh.mem _ _ (List.mem_append_left _ hmb)) (by simpa using fl_cell (j := 0) (v := .int .u32 q.1) pc_len hq rfl junk)) ?_) | refine wli nofun (fun _ _ h => h) (wl_val hl rfl trivial (r_load hl rfl one29 (hh.mem _ _ (List.mem_append_left _ hmb)) (by simpa using fl_cell (j := 1) (v := .int .u32 q.2) pc_len hq rfl junk)) ?_)
                clear hl a; intro a hl
                refine wli nofun (fun _ _ h => h) (wl_val hl rfl trivial (r_assign hl rfl) ?_)
                clear hl a; intro a hl
                refine wi_nil ?_
                have hl2 := hl.add (t := 0) (hl.add (t := 1) (hl.add (t := 3) (hl.add (t := 4) (hl.add (t := 5) (hl.nil) rfl) rfl) rfl) rfl) rfl; clear hl; have hl := hl2; clear hl2
                refine blk_normal ?_
                refine then_normal ?_
                refine i_region ?_
                refine wli nofun (fun _ _ h => h) (wl_val hl rfl trivial (r_move hl rfl) ?_)
                clear hl a; intro a hl
                first | refine wli nofun (fun _ _ h => h) (wl_val hl rfl trivial (r_add hl rfl rfl (by simp only [Fits]; omega)) ?_) | refine wli nofun (fun _ _ h => h) (wl_val hl rfl trivial (r_addW hl rfl rfl) ?_)
                clear hl a; intro a hl
                refine wli nofun (fun _ _ h => h) (wl_val hl rfl trivial (r_assign hl rfl) ?_)
                clear hl a; intro a hl
                refine wi_nil ?_
                have hl2 := hl.add (t := 0) (hl.add (t := 1) (hl.add (t := 3) (hl.add (t := 4) (hl.add (t := 5) (hl.nil) rfl) rfl) rfl) rfl) rfl; clear hl; have hl := hl2; clear hl2
                refine then_normal ?_
                refine ⟨⟨i + 1, cu2, _⟩, (by simp only; omega), ⟨hct9, hI9 _ rfl⟩, hl.addE (t := 5) (hl.addE (t := 4) (hl.addE (t := 0) (hl.addE (t := 1) (hl.addE (t := 3) (hl.nil) rfl (by first | rfl | exact congrArg (Value.int .i64) (i_succ i))) rfl (by first | rfl | exact congrArg (Value.int .i64) (i_succ i))) rfl (by first | rfl | exact congrArg (Value.int .i64) (i_succ i))) rfl (by first | rfl | exact congrArg (Value.int .i64) (i_succ i))) rfl (by first | rfl | exact congrArg (Value.int .i64) (i_succ i)), hh.keep (by repeat (first | exact keeps_nil | apply keeps_cons (by repeat (first | exact find_head | apply find_tail)) (by first  | rfl) | exact keeps_self | exact keeps_left | exact keeps_right | exact keeps_swap | apply keeps_mv))⟩
              ·
                try simp only [List.cons_append, List.nil_append, List.append_nil] at hh
                replace hh := hh.comm
                refine wli nofun (fun _ _ h => h) (wl_val hl rfl ⟨_, _, rfl, rfl, rfl⟩ (r_not hl rfl) ?_)
                clear hl a; intro a hl
                refine wli nofun (fun _ _ h => h) (wl_val hl rfl trivial (r_pickT hl rfl rfl) ?_)
                clear hl a; intro a hl
                refine wi_nil ?_
                have hl2 := hl.add (t := 0) (hl.add (t := 1) (hl.add (t := 3) (hl.add (t := 4) (hl.add (t := 5) (hl.add (t := 7) (hl.add (t := 87) (hl.nil) rfl) rfl) rfl) rfl) rfl) rfl) rfl; clear hl; have hl := hl2; clear hl2
                first | have htd8 := htd9 | (obtain ⟨cu2, hcu2⟩ : ∃ z, z = cu1 := ⟨_, rfl⟩; have htd9 : cu2 ++ rest = holesP s bl := (by rw [hcu2]; exact hnil (by assumption)); have hct9 : Cont cu2 := (by rw [hcu2]; exact hct1); rw [← hcu2] at hh) | skip
                refine then_normal ?_
                refine i_condT hl rfl ?_
                refine i_ret ?_
                refine then_ret ?_
                refine blk_ret ?_
                refine then_ret ?_
                refine then_ret ?_
                refine blk_ret ?_
                refine f_ret0 (F' := Bx (cu1 ++ [_])) hl hh rfl (by repeat (first | exact keeps_nil | apply keeps_cons (by repeat (first | exact find_head | apply find_tail)) (by first  | rfl) | exact keeps_self | exact keeps_left | exact keeps_right | exact keeps_swap | apply keeps_mv)) ?_
                exact ⟨rfl, .inr ⟨cu1, _, pre_of (hcons (by assumption)), hst, rfl⟩⟩
            · intro hg4; clear hl; intro hl
              try simp only [decide_eq_true_eq, decide_eq_false_iff_not, Bool.not_eq_true', Bool.not_eq_false', Bool.not_eq_true, Bool.not_eq_false, Bool.and_eq_true, Bool.or_eq_true, Bool.and_eq_false_iff, Bool.or_eq_false_iff, Bool.not_not, ne_eq, Int.not_lt, Int.not_le, Decidable.not_not, beq_iff_eq, bne_iff_ne] at hg4
              refine wli nofun (fun _ _ h => h) (wl_skip hl rfl ⟨_, _, rfl, rfl, rfl⟩ ?_)
              clear hl a; intro a hl
              refine wli nofun (fun _ _ h => h) (wl_skip hl rfl ⟨_, _, rfl, rfl, rfl⟩ ?_)
              clear hl a; intro a hl
              refine wli nofun (fun _ _ h => h) (wl_skip hl rfl ⟨_, _, rfl, rfl, rfl⟩ ?_)
              clear hl a; intro a hl
              refine wli nofun (fun _ _ h => h) (wl_skip hl rfl ⟨_, _, rfl, rfl, rfl⟩ ?_)
              clear hl a; intro a hl
              refine wli nofun (fun _ _ h => h) (wl_skip hl rfl ⟨_, _, rfl, rfl, rfl⟩ ?_)
              clear hl a; intro a hl
              refine wli nofun (fun _ _ h => h) (wl_skip hl rfl ⟨_, _, rfl, rfl, rfl⟩ ?_)
              clear hl a; intro a hl
              refine wli nofun (fun _ _ h => h) (wl_skip hl rfl ⟨_, _, rfl, rfl, rfl⟩ ?_)
              clear hl a; intro a hl
              refine wli nofun (fun _ _ h => h) (wl_skip hl rfl ⟨_, _, rfl, rfl, rfl⟩ ?_)
              clear hl a; intro a hl
              refine wli nofun (fun _ _ h => h) (wl_skip hl rfl ⟨_, _, rfl, rfl, rfl⟩ ?_)
              clear hl a; intro a hl
              refine wli nofun (fun _ _ h => h) (wl_skip hl rfl ⟨_, _, rfl, rfl, rfl⟩ ?_)
              clear hl a; intro a hl
              refine wli nofun (fun _ _ h => h) (wl_skip hl rfl ⟨_, _, rfl, rfl, rfl⟩ ?_)
              clear hl a; intro a hl
              refine wli nofun (fun _ _ h => h) (wl_val hl rfl trivial (r_pickF hl rfl rfl) ?_)
              clear hl a; intro a hl
              refine wi_nil ?_
              have hl2 := hl.add (t := 0) (hl.add (t := 1) (hl.add (t := 3) (hl.add (t := 4) (hl.add (t := 5) (hl.add (t := 7) (hl.add (t := 87) (hl.nil) rfl) rfl) rfl) rfl) rfl) rfl) rfl; clear hl; have hl := hl2; clear hl2
              first | have htd8 := htd9 | (obtain ⟨cu2, hcu2⟩ : ∃ z, z = cu1 := ⟨_, rfl⟩; have htd9 : cu2 ++ rest = holesP s bl := (by rw [hcu2]; exact hnil (by assumption)); have hct9 : Cont cu2 := (by rw [hcu2]; exact hct1); rw [← hcu2] at hh) | skip
              refine then_normal ?_
              refine i_condF hl rfl ?_
              refine i_skip ?_
              refine then_normal ?_
              refine i_seq ?_
              refine i_region ?_
              refine wli nofun (fun _ _ h => h) (wl_val hl rfl trivial (r_move hl rfl) ?_)
              clear hl a; intro a hl
              refine wli nofun (fun _ _ h => h) (wl_val hl rfl trivial (r_not hl rfl) ?_)
              clear hl a; intro a hl
              refine wi_nil ?_
              have hl2 := hl.add (t := 0) (hl.add (t := 1) (hl.add (t := 3) (hl.add (t := 4) (hl.add (t := 5) (hl.add (t := 89) (hl.nil) rfl) rfl) rfl) rfl) rfl) rfl; clear hl; have hl := hl2; clear hl2
              refine then_normal ?_
              refine i_condT hl rfl ?_
              have hI9 : ∀ a : Int, a = q.2 → ((i + 1 ≤ bl.length ∧ cu2 ++ holesF s bl (bl.drop (i + 1)) a = holesP s bl) ∨ (i + 1 = bl.length + 1 ∧ cu2 = holesP s bl)) := fun a ha => .inl ⟨by omega, by rw [ha, ← hrest]; exact htd9⟩
              refine i_region ?_
              refine wli nofun (fun _ _ h => h) (wl_val hl rfl trivial (r_move hl rfl) ?_)
              clear hl a; intro a hl
              refine wli nofun (fun _ _ h => h) (wl_val hl rfl trivial (r_move hl rfl) ?_)
              clear hl a; intro a hl
              refine wli nofun (fun _ _ h => h) (wl_val hl rfl trivial (r_indexS hl rfl rfl slc48 (by omega) (by omega) (by first | (simp only [Int.reduceToNat]; rfl) | exact toNat_add1 _ | exact toNat_add2 _ _ | exact toNat_emod _ _ | exact Int.toNat_natCast _ | rfl)) ?_)
              clear hl a; intro a hl
              refine wli nofun (fun _ _ h => h) (wl_val hl rfl trivial (r_field hl rfl fld73_1) ?_)
              clear hl a; intro a hl
              first | refine wli nofun (fun _ _ h => h) (w_load hl hh rfl trivial one29 rfl (by repeat (first | exact find_head | apply find_tail)) (by first | rfl) ?_) | refine wli nofun (fun _ _ h => h) (w_loadR hl hh rfl trivial one29 rfl hkb hkD rfl ?_) | refine wli nofun (fun _ _ h => h) (w_loadR hl hh rfl trivial one29 rfl hmc hcD rfl ?_) | refine wli nofun (fun _ _ h => h) (wl_val hl rfl trivial (r_load hl rfl one29 (hh.mem _ _ (List.mem_append_left _ hmb)) (by simpa using fl_cell (j := 0) (v := .int .u32 q.1) pc_len hq rfl junk)) ?_) | refine wli nofun (fun _ _ h => h) (wl_val hl rfl trivial (r_load hl rfl one29 (hh.mem _ _ (List.mem_append_left _ hmb)) (by simpa using fl_cell (j := 1) (v := .int .u32 q.2) pc_len hq rfl junk)) ?_)
              clear hl a; intro a hl
              refine wli nofun (fun _ _ h => h) (wl_val hl rfl trivial (r_assign hl rfl) ?_)
              clear hl a; intro a hl
              refine wi_nil ?_
              have hl2 := hl.add (t := 0) (hl.add (t := 1) (hl.add (t := 3) (hl.add (t := 4) (hl.add (t := 5) (hl.nil) rfl) rfl) rfl) rfl) rfl; clear hl; have hl := hl2; clear hl2
              refine blk_normal ?_
              refine then_normal ?_
              refine i_region ?_
              refine wli nofun (fun _ _ h => h) (wl_val hl rfl trivial (r_move hl rfl) ?_)
              clear hl a; intro a hl
              first | refine wli nofun (fun _ _ h => h) (wl_val hl rfl trivial (r_add hl rfl rfl (by simp only [Fits]; omega)) ?_) | refine wli nofun (fun _ _ h => h) (wl_val hl rfl trivial (r_addW hl rfl rfl) ?_)
              clear hl a; intro a hl
              refine wli nofun (fun _ _ h => h) (wl_val hl rfl trivial (r_assign hl rfl) ?_)
              clear hl a; intro a hl
              refine wi_nil ?_
              have hl2 := hl.add (t := 0) (hl.add (t := 1) (hl.add (t := 3) (hl.add (t := 4) (hl.add (t := 5) (hl.nil) rfl) rfl) rfl) rfl) rfl; clear hl; have hl := hl2; clear hl2
              refine then_normal ?_
              refine ⟨⟨i + 1, cu2, _⟩, (by simp only; omega), ⟨hct9, hI9 _ rfl⟩, hl.addE (t := 5) (hl.addE (t := 4) (hl.addE (t := 0) (hl.addE (t := 1) (hl.addE (t := 3) (hl.nil) rfl (by first | rfl | exact congrArg (Value.int .i64) (i_succ i))) rfl (by first | rfl | exact congrArg (Value.int .i64) (i_succ i))) rfl (by first | rfl | exact congrArg (Value.int .i64) (i_succ i))) rfl (by first | rfl | exact congrArg (Value.int .i64) (i_succ i))) rfl (by first | rfl | exact congrArg (Value.int .i64) (i_succ i)), hh.keep (by repeat (first | exact keeps_nil | apply keeps_cons (by repeat (first | exact find_head | apply find_tail)) (by first  | rfl) | exact keeps_self | exact keeps_left | exact keeps_right | exact keeps_swap | apply keeps_mv))⟩
        · intro hg2; clear hl; intro hl
          try simp only [decide_eq_true_eq, decide_eq_false_iff_not, Bool.not_eq_true', Bool.not_eq_false', Bool.not_eq_true, Bool.not_eq_false, Bool.and_eq_true, Bool.or_eq_true, Bool.and_eq_false_iff, Bool.or_eq_false_iff, Bool.not_not, ne_eq, Int.not_lt, Int.not_le, Decidable.not_not, beq_iff_eq, bne_iff_ne] at hg2
          refine wli nofun (fun _ _ h => h) (wl_skip hl rfl ⟨_, _, rfl, rfl, rfl⟩ ?_)
          clear hl a; intro a hl
          refine wli nofun (fun _ _ h => h) (wl_skip hl rfl ⟨_, _, rfl, rfl, rfl⟩ ?_)
          clear hl a; intro a hl
          refine wli nofun (fun _ _ h => h) (wl_skip hl rfl ⟨_, _, rfl, rfl, rfl⟩ ?_)
          clear hl a; intro a hl
          refine wli nofun (fun _ _ h => h) (wl_skip hl rfl ⟨_, _, rfl, rfl, rfl⟩ ?_)
          clear hl a; intro a hl
          refine wli nofun (fun _ _ h => h) (wl_skip hl rfl ⟨_, _, rfl, rfl, rfl⟩ ?_)
          clear hl a; intro a hl
          refine wli nofun (fun _ _ h => h) (wl_skip hl rfl ⟨_, _, rfl, rfl, rfl⟩ ?_)
          clear hl a; intro a hl
          refine wli nofun (fun _ _ h => h) (wl_val hl rfl trivial (r_pickF hl rfl rfl) ?_)
          clear hl a; intro a hl
          refine wi_nil ?_
          have hl2 := hl.add (t := 0) (hl.add (t := 1) (hl.add (t := 3) (hl.add (t := 4) (hl.add (t := 5) (hl.add (t := 6) (hl.add (t := 7) (hl.add (t := 57) (hl.nil) rfl) rfl) rfl) rfl) rfl) rfl) rfl) rfl; clear hl; have hl := hl2; clear hl2
          refine then_normal ?_
          refine i_condF hl rfl ?_
          have hnot : ¬ (s.phase = 2 ∧ lessP a_ s.recov = true ∧ lessP s.recov e_ = true) := by first | exact not3a (by assumption) | exact not3b (by assumption) | exact not3c (by assumption)
          obtain ⟨cu1, hcu1⟩ : ∃ z, z = cur := ⟨_, rfl⟩
          rw [← hcu1] at hh htd
          have hct1 : Cont cu1 := by rw [hcu1]; exact hct
          obtain ⟨hcons, hnil⟩ := seg_cons htd hnot
          refine i_skip ?_
          refine then_normal ?_
          refine i_seq ?_
          refine i_seq ?_
          refine i_region ?_
          refine wli nofun (fun _ _ h => h) (wl_val hl rfl trivial (r_move hl rfl) ?_)
          clear hl a; intro a hl
          refine wli nofun (fun _ _ h => h) (wl_val hl rfl trivial (r_move hl rfl) ?_)
          clear hl a; intro a hl
          refine wli nofun (fun _ _ h => h) (w_call hl hh rfl trivial rfl cal39 rfl (less_spec _ _) (by repeat (first | exact keeps_nil | apply keeps_cons (by repeat (first | exact find_head | apply find_tail)) (by first  | rfl) | exact keeps_self | exact keeps_left | exact keeps_right | exact keeps_swap | apply keeps_mv)) trivial ?_)
          clear hl hh a w; intro vc Fc a w hR hl hh
          obtain ⟨rfl, rfl⟩ := hR
          try simp only [List.cons_append, List.nil_append] at hh
          refine wli nofun (fun _ _ h => h) (wl_val hl rfl trivial (r_move hl rfl) ?_)
          clear hl a; intro a hl
          refine sl_split (t := 75) hl rfl ?_ ?_
          · intro hg5; clear hl; intro hl
            try simp only [decide_eq_true_eq, decide_eq_false_iff_not, Bool.not_eq_true', Bool.not_eq_false', Bool.not_eq_true, Bool.not_eq_false, Bool.and_eq_true, Bool.or_eq_true, Bool.and_eq_false_iff, Bool.or_eq_false_iff, Bool.not_not, ne_eq, Int.not_lt, Int.not_le, Decidable.not_not, beq_iff_eq, bne_iff_ne] at hg5
            refine wli nofun (fun _ _ h => h) (wl_val hl rfl ⟨_, _, rfl, rfl, rfl⟩ (r_move hl rfl) ?_)
            clear hl a; intro a hl
            refine wli nofun (fun _ _ h => h) (wl_val hl rfl ⟨_, _, rfl, rfl, rfl⟩ (r_move hl rfl) ?_)
            clear hl a; intro a hl
            refine wli nofun (fun _ _ h => h) (wl_val hl rfl ⟨_, _, rfl, rfl, rfl⟩ (r_move hl rfl) ?_)
            clear hl a; intro a hl
            first | refine wli nofun (fun _ _ h => h) (w_load hl hh rfl ⟨_, _, rfl, rfl, rfl⟩ one24 rfl (by repeat (first | exact find_head | apply find_tail)) (by first | rfl) ?_) | refine wli nofun (fun _ _ h => h) (w_loadR hl hh rfl ⟨_, _, rfl, rfl, rfl⟩ one24 rfl hkb hkD rfl ?_) | refine wli nofun (fun _ _ h => h) (w_loadR hl hh rfl ⟨_, _, rfl, rfl, rfl⟩ one24 rfl hmc hcD rfl ?_) | refine wli nofun (fun _ _ h => h) (wl_val hl rfl ⟨_, _, rfl, rfl, rfl⟩ (r_load hl rfl one24 (hh.mem _ _ (List.mem_append_left _ hmb)) (by simpa using fl_cell (j := 0) (v := .int .u32 q.1) pc_len hq rfl junk)) ?_) | refine wli nofun (fun _ _ h => h) (wl_val hl rfl ⟨_, _, rfl, rfl, rfl⟩ (r_load hl rfl one24 (hh.mem _ _ (List.mem_append_left _ hmb)) (by simpa using fl_cell (j := 1) (v := .int .u32 q.2) pc_len hq rfl junk)) ?_)
            clear hl a; intro a hl
            refine wli nofun (fun _ _ h => h) (wl_val hl rfl ⟨_, _, rfl, rfl, rfl⟩ (r_move hl rfl) ?_)
            clear hl a; intro a hl
            refine wli nofun (fun _ _ h => h) (wl_val hl rfl ⟨_, _, rfl, rfl, rfl⟩ (r_move hl rfl) ?_)
            clear hl a; intro a hl
            refine wli nofun (fun _ _ h => h) (w_call hl hh rfl ⟨_, _, rfl, rfl, rfl⟩ rfl cal69 rfl (isLost_spec cp s sp hs _ bl hbl _ cB HS0 hRb) (by repeat (first | exact keeps_nil | apply keeps_cons (by repeat (first | exact find_head | apply find_tail)) (by first  | rfl) | exact keeps_self | exact keeps_left | exact keeps_right | exact keeps_swap | apply keeps_mv)) ⟨hh.old hmc hcD, fun b o m => hh.mem b o (List.mem_append_left _ m)⟩ ?_)
            clear hl hh a w; intro vc Fc a w hR hl hh
            obtain ⟨rfl, rfl⟩ := hR
            try simp only [List.cons_append, List.nil_append] at hh
            refine wli nofun (fun _ _ h => h) (wl_val hl rfl ⟨_, _, rfl, rfl, rfl⟩ (r_move hl rfl) ?_)
            clear hl a; intro a hl
            refine wli nofun (fun _ _ h => h) (wl_val hl rfl ⟨_, _, rfl, rfl, rfl⟩ (r_build hl rfl zero93 bld93 (by simp only [fillL, setL, List.getElem?_cons_zero, List.getElem?_cons_succ, Value.cells, List.take_zero, List.take_succ_cons, List.take_nil, List.drop_zero, List.drop_succ_cons, List.drop_nil, List.length_cons, List.length_nil, List.cons_append, List.nil_append, List.append_nil, Nat.zero_add, Nat.add_zero, Nat.reduceAdd, Nat.reduceBEq, Nat.reduceEqDiff, Nat.ble, BEq.rfl, Bool.and_true, Bool.and_self, cond_true, beq_self_eq_true]; rfl)) ?_)
            clear hl a; intro a hl
            refine wli_yield hl hh rfl ⟨_, _, rfl, rfl, rfl⟩ rfl rfl (hy cu1 _ (pre_of (hcons (by assumption))) hct1) keeps_right (mem_keepD hh hmZ hdis) ?_
            clear hl hh a w; intro vc Fc a w hR hl hh
            rcases hR with ⟨rfl, hc2x, hF⟩ | ⟨rfl, hst, rfl⟩
            ·
              try simp only [List.cons_append, List.nil_append, List.append_nil] at hh
              obtain ⟨cu2, hF2, hct9, htd9⟩ := next_ex (hcons (by assumption)) hc2x hF
              subst hF2
              replace hh := hh.comm
              refine wli nofun (fun _ _ h => h) (wl_val hl rfl ⟨_, _, rfl, rfl, rfl⟩ (r_not hl rfl) ?_)
              clear hl a; intro a hl
              refine wli nofun (fun _ _ h => h) (wl_val hl rfl trivial (r_pickT hl rfl rfl) ?_)
              clear hl a; intro a hl
              refine wi_nil ?_
              have hl2 := hl.add (t := 0) (hl.add (t := 1) (hl.add (t := 3) (hl.add (t := 4) (hl.add (t := 5) (hl.add (t := 7) (hl.add (t := 87) (hl.nil) rfl) rfl) rfl) rfl) rfl) rfl) rfl; clear hl; have hl := hl2; clear hl2
              first | have htd8 := htd9 | (obtain ⟨cu2, hcu2⟩ : ∃ z, z = cu1 := ⟨_, rfl⟩; have htd9 : cu2 ++ rest = holesP s bl := (by rw [hcu2]; exact hnil (by assumption)); have hct9 : Cont cu2 := (by rw [hcu2]; exact hct1); rw [← hcu2] at hh) | skip
              refine then_normal ?_
              refine i_condF hl rfl ?_
              refine i_skip ?_
              refine then_normal ?_
              refine i_seq ?_
              refine i_region ?_
              refine wli nofun (fun _ _ h => h) (wl_val hl rfl trivial (r_move hl rfl) ?_)
              clear hl a; intro a hl
              refine wli nofun (fun _ _ h => h) (wl_val hl rfl trivial (r_not hl rfl) ?_)
              clear hl a; intro a hl
              refine wi_nil ?_
              have hl2 := hl.add (t := 0) (hl.add (t := 1) (hl.add (t := 3) (hl.add (t := 4) (hl.add (t := 5) (hl.add (t := 89) (hl.nil) rfl) rfl) rfl) rfl) rfl) rfl; clear hl; have hl := hl2; clear hl2
              refine then_normal ?_
              refine i_condT hl rfl ?_
              have hI9 : ∀ a : Int, a = q.2 → ((i + 1 ≤ bl.length ∧ cu2 ++ holesF s bl (bl.drop (i + 1)) a = holesP s bl) ∨ (i + 1 = bl.length + 1 ∧ cu2 = holesP s bl)) := fun a ha => .inl ⟨by omega, by rw [ha, ← hrest]; exact htd9⟩
              refine i_region ?_
              refine wli nofun (fun _ _ h => h) (wl_val hl rfl trivial (r_move hl rfl) ?_)
              clear hl a; intro a hl
              refine wli nofun (fun _ _ h => h) (wl_val hl rfl trivial (r_move hl rfl) ?_)
              clear hl a; intro a hl
              refine wli nofun (fun _ _ h => h) (wl_val hl rfl trivial (r_indexS hl rfl rfl slc48 (by omega) (by omega) (by first | (simp only [Int.reduceToNat]; rfl) | exact toNat_add1 _ | exact toNat_add2 _ _ | exact toNat_emod _ _ | exact Int.toNat_natCast _ | rfl)) ?_)
              clear hl a; intro a hl
              refine wli nofun (fun _ _ h => h) (wl_val hl rfl trivial (r_field hl rfl fld73_1) ?_)
              clear hl a; intro a hl
              first | refine wli nofun (fun _ _ h => h) (w_load hl hh rfl trivial one29 rfl (by repeat (first | exact find_head | apply find_tail)) (by first | rfl) ?_) | refine wli nofun (fun _ _ h => h) (w_loadR hl hh rfl trivial one29 rfl hkb hkD rfl ?_) | refine wli nofun (fun _ _ h => h) (w_loadR hl hh rfl trivial one29 rfl hmc hcD rfl ?_) | refine wli nofun (fun _ _ h => h) (wl_val hl rfl trivial (r_load hl rfl one29 (hh.mem _ _ (List.mem_append_left _ hmb)) (by simpa using fl_cell (j := 0) (v := .int .u32 q.1) pc_len hq rfl junk)) ?_) | refine wli nofun (fun _ _ h => h) (wl_val hl rfl trivial (r_load hl rfl one29 (hh.mem _ _ (List.mem_append_left _ hmb)) (by simpa using fl_cell (j := 1) (v := .int .u32 q.2) pc_len hq rfl junk)) ?_)
              clear hl a; intro a hl
              refine wli nofun (fun _ _ h => h) (wl_val hl rfl trivial (r_assign hl rfl) ?_)
              clear hl a; intro a hl
              refine wi_nil ?_
              have hl2 := hl.add (t := 0) (hl.add (t := 1) (hl.add (t := 3) (hl.add (t := 4) (hl.add (t := 5) (hl.nil) rfl) rfl) rfl) rfl) rfl; clear hl; have hl := hl2; clear hl2
              refine blk_normal ?_
              refine then_normal ?_
              refine i_region ?_
              refine wli nofun (fun _ _ h => h) (wl_val hl rfl trivial (r_move hl rfl) ?_)
              clear hl a; intro a hl
              first | refine wli nofun (fun _ _ h => h) (wl_val hl rfl trivial (r_add hl rfl rfl (by simp only [Fits]; omega)) ?_) | refine wli nofun (fun _ _ h => h) (wl_val hl rfl trivial (r_addW hl rfl rfl) ?_)
              clear hl a; intro a hl
              refine wli nofun (fun _ _ h => h) (wl_val hl rfl trivial (r_assign hl rfl) ?_)
              clear hl a; intro a hl
              refine wi_nil ?_
              have hl2 := hl.add (t := 0) (hl.add (t := 1) (hl.add (t := 3) (hl.add (t := 4) (hl.add (t := 5) (hl.nil) rfl) rfl) rfl) rfl) rfl; clear hl; have hl := hl2; clear hl2
              refine then_normal ?_
              refine ⟨⟨i + 1, cu2, _⟩, (by simp only; omega), ⟨hct9, hI9 _ rfl⟩, hl.addE (t := 5) (hl.addE (t := 4) (hl.addE (t := 0) (hl.addE (t := 1) (hl.addE (t := 3) (hl.nil) rfl (by first | rfl | exact congrArg (Value.int .i64) (i_succ i))) rfl (by first | rfl | exact congrArg (Value.int .i64) (i_succ i))) rfl (by first | rfl | exact congrArg (Value.int .i64) (i_succ i))) rfl (by first | rfl | exact congrArg (Value.int .i64) (i_succ i))) rfl (by first | rfl | exact congrArg (Value.int .i64) (i_succ i)), hh.keep (by repeat (first | exact keeps_nil | apply keeps_cons (by repeat (first | exact find_head | apply find_tail)) (by first  | rfl) | exact keeps_self | exact keeps_left | exact keeps_right | exact keeps_swap | apply keeps_mv))⟩
            ·
              try simp only [List.cons_append, List.nil_append, List.append_nil] at hh
              replace hh := hh.comm
              refine wli nofun (fun _ _ h => h) (wl_val hl rfl ⟨_, _, rfl, rfl, rfl⟩ (r_not hl rfl) ?_)
              clear hl a; intro a hl
              refine wli nofun (fun _ _ h => h) (wl_val hl rfl trivial (r_pickT hl rfl rfl) ?_)
              clear hl a; intro a hl
              refine wi_nil ?_
              have hl2 := hl.add (t := 0) (hl.add (t := 1) (hl.add (t := 3) (hl.add (t := 4) (hl.add (t := 5) (hl.add (t := 7) (hl.add (t := 87) (hl.nil) rfl) rfl) rfl) rfl) rfl) rfl) rfl; clear hl; have hl := hl2; clear hl2
              first | have htd8 := htd9 | (obtain ⟨cu2, hcu2⟩ : ∃ z, z = cu1 := ⟨_, rfl⟩; have htd9 : cu2 ++ rest = holesP s bl := (by rw [hcu2]; exact hnil (by assumption)); have hct9 : Cont cu2 := (by rw [hcu2]; exact hct1); rw [← hcu2] at hh) | skip
              refine then_normal ?_
              refine i_condT hl rfl ?_
              refine i_ret ?_
              refine then_ret ?_
              refine blk_ret ?_
              refine then_ret ?_
              refine then_ret ?_
              refine blk_ret ?_
              refine f_ret0 (F' := Bx (cu1 ++ [_])) hl hh rfl (by repeat (first | exact keeps_nil | apply keeps_cons (by repeat (first | exact find_head | apply find_tail)) (by first  | rfl) | exact keeps_self | exact keeps_left | exact keeps_right | exact keeps_swap | apply keeps_mv)) ?_
              exact ⟨rfl, .inr ⟨cu1, _, pre_of (hcons (by assumption)), hst, rfl⟩⟩
          · intro hg5; clear hl; intro hl
            try simp only [decide_eq_true_eq, decide_eq_false_iff_not, Bool.not_eq_true', Bool.not_eq_false', Bool.not_eq_true, Bool.not_eq_false, Bool.and_eq_true, Bool.or_eq_true, Bool.and_eq_false_iff, Bool.or_eq_false_iff, Bool.not_not, ne_eq, Int.not_lt, Int.not_le, Decidable.not_not, beq_iff_eq, bne_iff_ne] at hg5
            refine wli nofun (fun _ _ h => h) (wl_skip hl rfl ⟨_, _, rfl, rfl, rfl⟩ ?_)
            clear hl a; intro a hl
            refine wli nofun (fun _ _ h => h) (wl_skip hl rfl ⟨_, _, rfl, rfl, rfl⟩ ?_)
            clear hl a; intro a hl
            refine wli nofun (fun _ _ h => h) (wl_skip hl rfl ⟨_, _, rfl, rfl, rfl⟩ ?_)
            clear hl a; intro a hl
            refine wli nofun (fun _ _ h => h) (wl_skip hl rfl ⟨_, _, rfl, rfl, rfl⟩ ?_)
            clear hl a; intro a hl
            refine wli nofun (fun _ _ h => h) (wl_skip hl rfl ⟨_, _, rfl, rfl, rfl⟩ ?_)
            clear hl a; intro a hl
            refine wli nofun (fun _ _ h => h) (wl_skip hl rfl ⟨_, _, rfl, rfl, rfl⟩ ?_)
            clear hl a; intro a hl
            refine wli nofun (fun _ _ h => h) (wl_skip hl rfl ⟨_, _, rfl, rfl, rfl⟩ ?_)
            clear hl a; intro a hl
            refine wli nofun (fun _ _ h => h) (wl_skip hl rfl ⟨_, _, rfl, rfl, rfl⟩ ?_)
            clear hl a; intro a hl
            refine wli nofun (fun _ _ h => h) (wl_skip hl rfl ⟨_, _, rfl, rfl, rfl⟩ ?_)
            clear hl a; intro a hl
            refine wli nofun (fun _ _ h => h) (wl_skip hl rfl ⟨_, _, rfl, rfl, rfl⟩ ?_)
            clear hl a; intro a hl
            refine wli nofun (fun _ _ h => h) (wl_skip hl rfl ⟨_, _, rfl, rfl, rfl⟩ ?_)
            clear hl a; intro a hl
            refine wli nofun (fun _ _ h => h) (wl_val hl rfl trivial (r_pickF hl rfl rfl) ?_)
            clear hl a; intro a hl
            refine wi_nil ?_
            have hl2 := hl.add (t := 0) (hl.add (t := 1) (hl.add (t := 3) (hl.add (t := 4) (hl.add (t := 5) (hl.add (t := 7) (hl.add (t := 87) (hl.nil) rfl) rfl) rfl) rfl) rfl) rfl) rfl; clear hl; have hl := hl2; clear hl2
            first | have htd8 := htd9 | (obtain ⟨cu2, hcu2⟩ : ∃ z, z = cu1 := ⟨_, rfl⟩; have htd9 : cu2 ++ rest = holesP s bl := (by rw [hcu2]; exact hnil (by assumption)); have hct9 : Cont cu2 := (by rw [hcu2]; exact hct1); rw [← hcu2] at hh) | skip
            refine then_normal ?_
            refine i_condF hl rfl ?_
            refine i_skip ?_
            refine then_normal ?_
            refine i_seq ?_
            refine i_region ?_
            refine wli nofun (fun _ _ h => h) (wl_val hl rfl trivial (r_move hl rfl) ?_)
            clear hl a; intro a hl
            refine wli nofun (fun _ _ h => h) (wl_val hl rfl trivial (r_not hl rfl) ?_)
            clear hl a; intro a hl
            refine wi_nil ?_
            have hl2 := hl.add (t := 0) (hl.add (t := 1) (hl.add (t := 3) (hl.add (t := 4) (hl.add (t := 5) (hl.add (t := 89) (hl.nil) rfl) rfl) rfl) rfl) rfl) rfl; clear hl; have hl := hl2; clear hl2
            refine then_normal ?_
            refine i_condT hl rfl ?_
            have hI9 : ∀ a : Int, a = q.2 → ((i + 1 ≤ bl.length ∧ cu2 ++ holesF s bl (bl.drop (i + 1)) a = holesP s bl) ∨ (i + 1 = bl.length + 1 ∧ cu2 = holesP s bl)) := fun a ha => .inl ⟨by omega, by rw [ha, ← hrest]; exact htd9⟩
            refine i_region ?_
            refine wli nofun (fun _ _ h => h) (wl_val hl rfl trivial (r_move hl rfl) ?_)
            clear hl a; intro a hl
            refine wli nofun (fun _ _ h => h) (wl_val hl rfl trivial (r_move hl rfl) ?_)
            clear hl a; intro a hl
            refine wli nofun (fun _ _ h => h) (wl_val hl rfl trivial (r_indexS hl rfl rfl slc48 (by omega) (by omega) (by first | (simp only [Int.reduceToNat]; rfl) | exact toNat_add1 _ | exact toNat_add2 _ _ | exact toNat_emod _ _ | exact Int.toNat_natCast _ | rfl)) ?_)
            clear hl a; intro a hl
            refine wli nofun (fun _ _ h => h) (wl_val hl rfl trivial (r_field hl rfl fld73_1) ?_)
            clear hl a; intro a hl
            first | refine wli nofun (fun _ _ h => h) (w_load hl hh rfl trivial one29 rfl (by repeat (first | exact find_head | apply find_tail)) (by first | rfl) ?_) | refine wli nofun (fun _ _ h => h) (w_loadR hl hh rfl trivial one29 rfl hkb hkD rfl ?_) | refine wli nofun (fun _ _ h => h) (w_loadR hl hh rfl trivial one29 rfl hmc hcD rfl ?_) | refine wli nofun (fun _ _ h => h) (wl_val hl rfl trivial (r_load hl rfl one29 (hh.mem _ _ (List.mem_append_left _ hmb)) (by simpa using fl_cell (j := 0) (v := .int .u32 q.1) pc_len hq rfl junk)) ?_) | refine wli nofun (fun _ _ h => h) (wl_val hl rfl trivial (r_load hl rfl one29 (hh.mem _ _ (List.mem_append_left _ hmb)) (by simpa using fl_cell (j := 1) (v := .int .u32 q.2) pc_len hq rfl junk)) ?_)
            clear hl a; intro a hl
            refine wli nofun (fun _ _ h => h) (wl_val hl rfl trivial (r_assign hl rfl) ?_)
            clear hl a; intro a hl
            refine wi_nil ?_
            have hl2 := hl.add (t := 0) (hl.add (t := 1) (hl.add (t := 3) (hl.add (t := 4) (hl.add (t := 5) (hl.nil) rfl) rfl) rfl) rfl) rfl; clear hl; have hl := hl2; clear hl2
            refine blk_normal ?_
            refine then_normal ?_
            refine i_region ?_
            refine wli nofun (fun _ _ h => h) (wl_val hl rfl trivial (r_move hl rfl) ?_)
            clear hl a; intro a hl
            first | refine wli nofun (fun _ _ h => h) (wl_val hl rfl trivial (r_add hl rfl rfl (by simp only [Fits]; omega)) ?_) | refine wli nofun (fun _ _ h => h) (wl_val hl rfl trivial (r_addW hl rfl rfl) ?_)
            clear hl a; intro a hl
            refine wli nofun (fun _ _ h => h) (wl_val hl rfl trivial (r_assign hl rfl) ?_)
            clear hl a; intro a hl
            refine wi_nil ?_
            have hl2 := hl.add (t := 0) (hl.add (t := 1) (hl.add (t := 3) (hl.add (t := 4) (hl.add (t := 5) (hl.nil) rfl) rfl) rfl) rfl) rfl; clear hl; have hl := hl2; clear hl2
            refine then_normal ?_
            refine ⟨⟨i + 1, cu2, _⟩, (by simp only; omega), ⟨hct9, hI9 _ rfl⟩, hl.addE (t := 5) (hl.addE (t := 4) (hl.addE (t := 0) (hl.addE (t := 1) (hl.addE (t := 3) (hl.nil) rfl (by first | rfl | exact congrArg (Value.int .i64) (i_succ i))) rfl (by first | rfl | exact congrArg (Value.int .i64) (i_succ i))) rfl (by first | rfl | exact congrArg (Value.int .i64) (i_succ i))) rfl (by first | rfl | exact congrArg (Value.int .i64) (i_succ i))) rfl (by first | rfl | exact congrArg (Value.int .i64) (i_succ i)), hh.keep (by repeat (first | exact keeps_nil | apply keeps_cons (by repeat (first | exact find_head | apply find_tail)) (by first  | rfl) | exact keeps_self | exact keeps_left | exact keeps_right | exact keeps_swap | apply keeps_mv))⟩
      · intro hg1; clear hl; intro hl
        try simp only [decide_eq_true_eq, decide_eq_false_iff_not, Bool.not_eq_true', Bool.not_eq_false', Bool.not_eq_true, Bool.not_eq_false, Bool.and_eq_true, Bool.or_eq_true, Bool.and_eq_false_iff, Bool.or_eq_false_iff, Bool.not_not, ne_eq, Int.not_lt, Int.not_le, Decidable.not_not, beq_iff_eq, bne_iff_ne] at hg1
        refine wli nofun (fun _ _ h => h) (wl_skip hl rfl ⟨_, _, rfl, rfl, rfl⟩ ?_)
        clear hl a; intro a hl
        refine wli nofun (fun _ _ h => h) (wl_skip hl rfl ⟨_, _, rfl, rfl, rfl⟩ ?_)
        clear hl a; intro a hl
        refine wli nofun (fun _ _ h => h) (wl_skip hl rfl ⟨_, _, rfl, rfl, rfl⟩ ?_)
        clear hl a; intro a hl
        refine wli nofun (fun _ _ h => h) (wl_skip hl rfl ⟨_, _, rfl, rfl, rfl⟩ ?_)
        clear hl a; intro a hl
        refine wli nofun (fun _ _ h => h) (wl_skip hl rfl ⟨_, _, rfl, rfl, rfl⟩ ?_)
        clear hl a; intro a hl
        refine wli nofun (fun _ _ h => h) (wl_skip hl rfl ⟨_, _, rfl, rfl, rfl⟩ ?_)
        clear hl a; intro a hl
        refine wli nofun (fun _ _ h => h) (wl_val hl rfl trivial (r_pickF hl rfl rfl) ?_)
        clear hl a; intro a hl
        refine wli nofun (fun _ _ h => h) (wl_val hl rfl trivial (r_move hl rfl) ?_)
        clear hl a; intro a hl
        refine wli nofun (fun _ _ h => h) (wl_skip hl rfl ⟨_, _, rfl, rfl, rfl⟩ ?_)
        clear hl a; intro a hl
        refine wli nofun (fun _ _ h => h) (wl_skip hl rfl ⟨_, _, rfl, rfl, rfl⟩ ?_)
        clear hl a; intro a hl
        refine wli nofun (fun _ _ h => h) (wl_skip hl rfl ⟨_, _, rfl, rfl, rfl⟩ ?_)
        clear hl a; intro a hl
        refine wli nofun (fun _ _ h => h) (wl_skip hl rfl ⟨_, _, rfl, rfl, rfl⟩ ?_)
        clear hl a; intro a hl
        refine wli nofun (fun _ _ h => h) (wl_skip hl rfl ⟨_, _, rfl, rfl, rfl⟩ ?_)
        clear hl a; intro a hl
        refine wli nofun (fun _ _ h => h) (wl_skip hl rfl ⟨_, _, rfl, rfl, rfl⟩ ?_)
        clear hl a; intro a hl
        refine wli nofun (fun _ _ h => h) (wl_val hl rfl trivial (r_pickF hl rfl rfl) ?_)
        clear hl a; intro a hl
        refine wi_nil ?_
        have hl2 := hl.add (t := 0) (hl.add (t := 1) (hl.add (t := 3) (hl.add (t := 4) (hl.add (t := 5) (hl.add (t := 6) (hl.add (t := 7) (hl.add (t := 57) (hl.nil) rfl) rfl) rfl) rfl) rfl) rfl) rfl) rfl; clear hl; have hl := hl2; clear hl2
        refine then_normal ?_
        refine i_condF hl rfl ?_
        have hnot : ¬ (s.phase = 2 ∧ lessP a_ s.recov = true ∧ lessP s.recov e_ = true) := by first | exact not3a (by assumption) | exact not3b (by assumption) | exact not3c (by assumption)
        obtain ⟨cu1, hcu1⟩ : ∃ z, z = cur := ⟨_, rfl⟩
        rw [← hcu1] at hh htd
        have hct1 : Cont cu1 := by rw [hcu1]; exact hct
        obtain ⟨hcons, hnil⟩ := seg_cons htd hnot
        refine i_skip ?_
        refine then_normal ?_
        refine i_seq ?_
        refine i_seq ?_
        refine i_region ?_
        refine wli nofun (fun _ _ h => h) (wl_val hl rfl trivial (r_move hl rfl) ?_)
        clear hl a; intro a hl
        refine wli nofun (fun _ _ h => h) (wl_val hl rfl trivial (r_move hl rfl) ?_)
        clear hl a; intro a hl
        refine wli nofun (fun _ _ h => h) (w_call hl hh rfl trivial rfl cal39 rfl (less_spec _ _) (by repeat (first | exact keeps_nil | apply keeps_cons (by repeat (first | exact find_head | apply find_tail)) (by first  | rfl) | exact keeps_self | exact keeps_left | exact keeps_right | exact keeps_swap | apply keeps_mv)) trivial ?_)
        clear hl hh a w; intro vc Fc a w hR hl hh
        obtain ⟨rfl, rfl⟩ := hR
        try simp only [List.cons_append, List.nil_append] at hh
        refine wli nofun (fun _ _ h => h) (wl_val hl rfl trivial (r_move hl rfl) ?_)
        clear hl a; intro a hl
        refine sl_split (t := 75) hl rfl ?_ ?_
        · intro hg6; clear hl; intro hl
          try simp only [decide_eq_true_eq, decide_eq_false_iff_not, Bool.not_eq_true', Bool.not_eq_false', Bool.not_eq_true, Bool.not_eq_false, Bool.and_eq_true, Bool.or_eq_true, Bool.and_eq_false_iff, Bool.or_eq_false_iff, Bool.not_not, ne_eq, Int.not_lt, Int.not_le, Decidable.not_not, beq_iff_eq, bne_iff_ne] at hg6
          refine wli nofun (fun _ _ h => h) (wl_val hl rfl ⟨_, _, rfl, rfl, rfl⟩ (r_move hl rfl) ?_)
          clear hl a; intro a hl
          refine wli nofun (fun _ _ h => h) (wl_val hl rfl ⟨_, _, rfl, rfl, rfl⟩ (r_move hl rfl) ?_)
          clear hl a; intro a hl
          refine wli nofun (fun _ _ h => h) (wl_val hl rfl ⟨_, _, rfl, rfl, rfl⟩ (r_move hl rfl) ?_)
          clear hl a; intro a hl
          first | refine wli nofun (fun _ _ h => h) (w_load hl hh rfl ⟨_, _, rfl, rfl, rfl⟩ one24 rfl (by repeat (first | exact find_head | apply find_tail)) (by first | rfl) ?_) | refine wli nofun (fun _ _ h => h) (w_loadR hl hh rfl ⟨_, _, rfl, rfl, rfl⟩ one24 rfl hkb hkD rfl ?_) | refine wli nofun (fun _ _ h => h) (w_loadR hl hh rfl ⟨_, _, rfl, rfl, rfl⟩ one24 rfl hmc hcD rfl ?_) | refine wli nofun (fun _ _ h => h) (wl_val hl rfl ⟨_, _, rfl, rfl, rfl⟩ (r_load hl rfl one24 (hh.mem _ _ (List.mem_append_left _ hmb)) (by simpa using fl_cell (j := 0) (v := .int .u32 q.1) pc_len hq rfl junk)) ?_) | refine wli nofun (fun _ _ h => h) (wl_val hl rfl ⟨_, _, rfl, rfl, rfl⟩ (r_load hl rfl one24 (hh.mem _ _ (List.mem_append_left _ hmb)) (by simpa using fl_cell (j := 1) (v := .int .u32 q.2) pc_len hq rfl junk)) ?_)
          clear hl a; intro a hl
          refine wli nofun (fun _ _ h => h) (wl_val hl rfl ⟨_, _, rfl, rfl, rfl⟩ (r_move hl rfl) ?_)
          clear hl a; intro a hl
          refine wli nofun (fun _ _ h => h) (wl_val hl rfl ⟨_, _, rfl, rfl, rfl⟩ (r_move hl rfl) ?_)
          clear hl a; intro a hl
          refine wli nofun (fun _ _ h => h) (w_call hl hh rfl ⟨_, _, rfl, rfl, rfl⟩ rfl cal69 rfl (isLost_spec cp s sp hs _ bl hbl _ cB HS0 hRb) (by repeat (first | exact keeps_nil | apply keeps_cons (by repeat (first | exact find_head | apply find_tail)) (by first  | rfl) | exact keeps_self | exact keeps_left | exact keeps_right | exact keeps_swap | apply keeps_mv)) ⟨hh.old hmc hcD, fun b o m => hh.mem b o (List.mem_append_left _ m)⟩ ?_)
          clear hl hh a w; intro vc Fc a w hR hl hh
          obtain ⟨rfl, rfl⟩ := hR
          try simp only [List.cons_append, List.nil_append] at hh
          refine wli nofun (fun _ _ h => h) (wl_val hl rfl ⟨_, _, rfl, rfl, rfl⟩ (r_move hl rfl) ?_)
          clear hl a; intro a hl
          refine wli nofun (fun _ _ h => h) (wl_val hl rfl ⟨_, _, rfl, rfl, rfl⟩ (r_build hl rfl zero93 bld93 (by simp only [fillL, setL, List.getElem?_cons_zero, List.getElem?_cons_succ, Value.cells, List.take_zero, List.take_succ_cons, List.take_nil, List.drop_zero, List.drop_succ_cons, List.drop_nil, List.length_cons, List.length_nil, List.cons_append, List.nil_append, List.append_nil, Nat.zero_add, Nat.add_zero, Nat.reduceAdd, Nat.reduceBEq, Nat.reduceEqDiff, Nat.ble, BEq.rfl, Bool.and_true, Bool.and_self, cond_true, beq_self_eq_true]; rfl)) ?_)
          clear hl a; intro a hl
          refine wli_yield hl hh rfl ⟨_, _, rfl, rfl, rfl⟩ rfl rfl (hy cu1 _ (pre_of (hcons (by assumption))) hct1) keeps_right (mem_keepD hh hmZ hdis) ?_
          clear hl hh a w; intro vc Fc a w hR hl hh
          rcases hR with ⟨rfl, hc2x, hF⟩ | ⟨rfl, hst, rfl⟩
          ·
            try simp only [List.cons_append, List.nil_append, List.append_nil] at hh
            obtain ⟨cu2, hF2, hct9, htd9⟩ := next_ex (hcons (by assumption)) hc2x hF
            subst hF2
            replace hh := hh.comm
            refine wli nofun (fun _ _ h => h) (wl_val hl rfl ⟨_, _, rfl, rfl, rfl⟩ (r_not hl rfl) ?_)
            clear hl a; intro a hl
            refine wli nofun (fun _ _ h => h) (wl_val hl rfl trivial (r_pickT hl rfl rfl) ?_)
            clear hl a; intro a hl
            refine wi_nil ?_
            have hl2 := hl.add (t := 0) (hl.add (t := 1) (hl.add (t := 3) (hl.add (t := 4) (hl.add (t := 5) (hl.add (t := 7) (hl.add (t := 87) (hl.nil) rfl) rfl) rfl) rfl) rfl) rfl) rfl; clear hl; have hl := hl2; clear hl2
            first | have htd8 := htd9 | (obtain ⟨cu2, hcu2⟩ : ∃ z, z = cu1 := ⟨_, rfl⟩; have htd9 : cu2 ++ rest = holesP s bl := (by rw [hcu2]; exact hnil (by assumption)); have hct9 : Cont cu2 := (by rw [hcu2]; exact hct1); rw [← hcu2] at hh) | skip
            refine then_normal ?_
            refine i_condF hl rfl ?_
            refine i_skip ?_
            refine then_normal ?_
            refine i_seq ?_
            refine i_region ?_
            refine wli nofun (fun _ _ h => h) (wl_val hl rfl trivial (r_move hl rfl) ?_)
            clear hl a; intro a hl
            refine wli nofun (fun _ _ h => h) (wl_val hl rfl trivial (r_not hl rfl) ?_)
            clear hl a; intro a hl
            refine wi_nil ?_
            have hl2 := hl.add (t := 0) (hl.add (t := 1) (hl.add (t := 3) (hl.add (t := 4) (hl.add (t := 5) (hl.add (t := 89) (hl.nil) rfl) rfl) rfl) rfl) rfl) rfl; clear hl; have hl := hl2; clear hl2
            refine then_normal ?_
            refine i_condT hl rfl ?_
            have hI9 : ∀ a : Int, a = q.2 → ((i + 1 ≤ bl.length ∧ cu2 ++ holesF s bl (bl.drop (i + 1)) a = holesP s bl) ∨ (i + 1 = bl.length + 1 ∧ cu2 = holesP s bl)) := fun a ha => .inl ⟨by omega, by rw [ha, ← hrest]; exact htd9⟩
            refine i_region ?_
            refine wli nofun (fun _ _ h => h) (wl_val hl rfl trivial (r_move hl rfl) ?_)
            clear hl a; intro a hl
            refine wli nofun (fun _ _ h => h) (wl_val hl rfl trivial (r_move hl rfl) ?_)
            clear hl a; intro a hl
            refine wli nofun (fun _ _ h => h) (wl_val hl rfl trivial (r_indexS hl rfl rfl slc48 (by omega) (by omega) (by first | (simp only [Int.reduceToNat]; rfl) | exact toNat_add1 _ | exact toNat_add2 _ _ | exact toNat_emod _ _ | exact Int.toNat_natCast _ | rfl)) ?_)
            clear hl a; intro a hl
            refine wli nofun (fun _ _ h => h) (wl_val hl rfl trivial (r_field hl rfl fld73_1) ?_)
            clear hl a; intro a hl
            first | refine wli nofun (fun _ _ h => h) (w_load hl hh rfl trivial one29 rfl (by repeat (first | exact find_head | apply find_tail)) (by first | rfl) ?_) | refine wli nofun (fun _ _ h => h) (w_loadR hl hh rfl trivial one29 rfl hkb hkD rfl ?_) | refine wli nofun (fun _ _ h => h) (w_loadR hl hh rfl trivial one29 rfl hmc hcD rfl ?_) | refine wli nofun (fun _ _ h => h) (wl_val hl rfl trivial (r_load hl rfl one29 (hh.mem _ _ (List.mem_append_left _ hmb)) (by simpa using fl_cell (j := 0) (v := .int .u32 q.1) pc_len hq rfl junk)) ?_) | refine wli nofun (fun _ _ h => h) (wl_val hl rfl trivial (r_load hl rfl one29 (hh.mem _ _ (List.mem_append_left _ hmb)) (by simpa using fl_cell (j := 1) (v := .int .u32 q.2) pc_len hq rfl junk)) ?_)
            clear hl a; intro a hl
            refine wli nofun (fun _ _ h => h) (wl_val hl rfl trivial (r_assign hl rfl) ?_)
            clear hl a; intro a hl
            refine wi_nil ?_
            have hl2 := hl.add (t := 0) (hl.add (t := 1) (hl.add (t := 3) (hl.add (t := 4) (hl.add (t := 5) (hl.nil) rfl) rfl) rfl) rfl) rfl; clear hl; have hl := hl2; clear hl2
            refine blk_normal ?_
            refine then_normal ?_
            refine i_region ?_
            refine wli nofun (fun _ _ h => h) (wl_val hl rfl trivial (r_move hl rfl) ?_)
            clear hl a; intro a hl
            first | refine wli nofun (fun _ _ h => h) (wl_val hl rfl trivial (r_add hl rfl rfl (by simp only [Fits]; omega)) ?_) | refine wli nofun (fun _ _ h => h) (wl_val hl rfl trivial (r_addW hl rfl rfl) ?_)
            clear hl a; intro a hl
            refine wli nofun (fun _ _ h => h) (wl_val hl rfl trivial (r_assign hl rfl) ?_)
            clear hl a; intro a hl
            refine wi_nil ?_
            have hl2 := hl.add (t := 0) (hl.add (t := 1) (hl.add (t := 3) (hl.add (t := 4) (hl.add (t := 5) (hl.nil) rfl) rfl) rfl) rfl) rfl; clear hl; have hl := hl2; clear hl2
            refine then_normal ?_
            refine ⟨⟨i + 1, cu2, _⟩, (by simp only; omega), ⟨hct9, hI9 _ rfl⟩, hl.addE (t := 5) (hl.addE (t := 4) (hl.addE (t := 0) (hl.addE (t := 1) (hl.addE (t := 3) (hl.nil) rfl (by first | rfl | exact congrArg (Value.int .i64) (i_succ i))) rfl (by first | rfl | exact congrArg (Value.int .i64) (i_succ i))) rfl (by first | rfl | exact congrArg (Value.int .i64) (i_succ i))) rfl (by first | rfl | exact congrArg (Value.int .i64) (i_succ i))) rfl (by first | rfl | exact congrArg (Value.int .i64) (i_succ i)), hh.keep (by repeat (first | exact keeps_nil | apply keeps_cons (by repeat (first | exact find_head | apply find_tail)) (by first  | rfl) | exact keeps_self | exact keeps_left | exact keeps_right | exact keeps_swap | apply keeps_mv))⟩
          ·
            try simp only [List.cons_append, List.nil_append, List.append_nil] at hh
            replace hh := hh.comm
            refine wli nofun (fun _ _ h => h) (wl_val hl rfl ⟨_, _, rfl, rfl, rfl⟩ (r_not hl rfl) ?_)
            clear hl a; intro a hl
            refine wli nofun (fun _ _ h => h) (wl_val hl rfl trivial (r_pickT hl rfl rfl) ?_)
            clear hl a; intro a hl
            refine wi_nil ?_
            have hl2 := hl.add (t := 0) (hl.add (t := 1) (hl.add (t := 3) (hl.add (t := 4) (hl.add (t := 5) (hl.add (t := 7) (hl.add (t := 87) (hl.nil) rfl) rfl) rfl) rfl) rfl) rfl) rfl; clear hl; have hl := hl2; clear hl2
            first | have htd8 := htd9 | (obtain ⟨cu2, hcu2⟩ : ∃ z, z = cu1 := ⟨_, rfl⟩; have htd9 : cu2 ++ rest = holesP s bl := (by rw [hcu2]; exact hnil (by assumption)); have hct9 : Cont cu2 := (by rw [hcu2]; exact hct1); rw [← hcu2] at hh) | skip
            refine then_normal ?_
            refine i_condT hl rfl ?_
            refine i_ret ?_
            refine then_ret ?_
            refine blk_ret ?_
            refine then_ret ?_
            refine then_ret ?_
            refine blk_ret ?_
            refine f_ret0 (F' := Bx (cu1 ++ [_])) hl hh rfl (by repeat (first | exact keeps_nil | apply keeps_cons (by repeat (first | exact find_head | apply find_tail)) (by first  | rfl) | exact keeps_self | exact keeps_left | exact keeps_right | exact keeps_swap | apply keeps_mv)) ?_
            exact ⟨rfl, .inr ⟨cu1, _, pre_of (hcons (by assumption)), hst, rfl⟩⟩
        · intro hg6; clear hl; intro hl
          try simp only [decide_eq_true_eq, decide_eq_false_iff_not, Bool.not_eq_true', Bool.not_eq_false', Bool.not_eq_true, Bool.not_eq_false, Bool.and_eq_true, Bool.or_eq_true, Bool.and_eq_false_iff, Bool.or_eq_false_iff, Bool.not_not, ne_eq, Int.not_lt, Int.not_le, Decidable.not_not, beq_iff_eq, bne_iff_ne] at hg6
          refine wli nofun (fun _ _ h => h) (wl_skip hl rfl ⟨_, _, rfl, rfl, rfl⟩ ?_)
          clear hl a; intro a hl
          refine wli nofun (fun _ _ h => h) (wl_skip hl rfl ⟨_, _, rfl, rfl, rfl⟩ ?_)
          clear hl a; intro a hl
          refine wli nofun (fun _ _ h => h) (wl_skip hl rfl ⟨_, _, rfl, rfl, rfl⟩ ?_)
          clear hl a; intro a hl
          refine wli nofun (fun _ _ h => h) (wl_skip hl rfl ⟨_, _, rfl, rfl, rfl⟩ ?_)
          clear hl a; intro a hl
          refine wli nofun (fun _ _ h => h) (wl_skip hl rfl ⟨_, _, rfl, rfl, rfl⟩ ?_)
          clear hl a; intro a hl
          refine wli nofun (fun _ _ h => h) (wl_skip hl rfl ⟨_, _, rfl, rfl, rfl⟩ ?_)
          clear hl a; intro a hl
          refine wli nofun (fun _ _ h => h) (wl_skip hl rfl ⟨_, _, rfl, rfl, rfl⟩ ?_)
          clear hl a; intro a hl
          refine wli nofun (fun _ _ h => h) (wl_skip hl rfl ⟨_, _, rfl, rfl, rfl⟩ ?_)
          clear hl a; intro a hl
          refine wli nofun (fun _ _ h => h) (wl_skip hl rfl ⟨_, _, rfl, rfl, rfl⟩ ?_)
          clear hl a; intro a hl
          refine wli nofun (fun _ _ h => h) (wl_skip hl rfl ⟨_, _, rfl, rfl, rfl⟩ ?_)
          clear hl a; intro a hl
          refine wli nofun (fun _ _ h => h) (wl_skip hl rfl ⟨_, _, rfl, rfl, rfl⟩ ?_)
          clear hl a; intro a hl
          refine wli nofun (fun _ _ h => h) (wl_val hl rfl trivial (r_pickF hl rfl rfl) ?_)
          clear hl a; intro a hl
          refine wi_nil ?_
          have hl2 := hl.add (t := 0) (hl.add (t := 1) (hl.add (t := 3) (hl.add (t := 4) (hl.add (t := 5) (hl.add (t := 7) (hl.add (t := 87) (hl.nil) rfl) rfl) rfl) rfl) rfl) rfl) rfl; clear hl; have hl := hl2; clear hl2
          first | have htd8 := htd9 | (obtain ⟨cu2, hcu2⟩ : ∃ z, z = cu1 := ⟨_, rfl⟩; have htd9 : cu2 ++ rest = holesP s bl := (by rw [hcu2]; exact hnil (by assumption)); have hct9 : Cont cu2 := (by rw [hcu2]; exact hct1); rw [← hcu2] at hh) | skip
          refine then_normal ?_
          refine i_condF hl rfl ?_
          refine i_skip ?_
          refine then_normal ?_
          refine i_seq ?_
          refine i_region ?_
          refine wli nofun (fun _ _ h => h) (wl_val hl rfl trivial (r_move hl rfl) ?_)
          clear hl a; intro a hl
          refine wli nofun (fun _ _ h => h) (wl_val hl rfl trivial (r_not hl rfl) ?_)
          clear hl a; intro a hl
          refine wi_nil ?_
          have hl2 := hl.add (t := 0) (hl.add (t := 1) (hl.add (t := 3) (hl.add (t := 4) (hl.add (t := 5) (hl.add (t := 89) (hl.nil) rfl) rfl) rfl) rfl) rfl) rfl; clear hl; have hl := hl2; clear hl2
          refine then_normal ?_
          refine i_condT hl rfl ?_
          have hI9 : ∀ a : Int, a = q.2 → ((i + 1 ≤ bl.length ∧ cu2 ++ holesF s bl (bl.drop (i + 1)) a = holesP s bl) ∨ (i + 1 = bl.length + 1 ∧ cu2 = holesP s bl)) := fun a ha => .inl ⟨by omega, by rw [ha, ← hrest]; exact htd9⟩
          refine i_region ?_
          refine wli nofun (fun _ _ h => h) (wl_val hl rfl trivial (r_move hl rfl) ?_)
          clear hl a; intro a hl
          refine wli nofun (fun _ _ h => h) (wl_val hl rfl trivial (r_move hl rfl) ?_)
          clear hl a; intro a hl
          refine wli nofun (fun _ _ h => h) (wl_val hl rfl trivial (r_indexS hl rfl rfl slc48 (by omega) (by omega) (by first | (simp only [Int.reduceToNat]; rfl) | exact toNat_add1 _ | exact toNat_add2 _ _ | exact toNat_emod _ _ | exact Int.toNat_natCast _ | rfl)) ?_)
          clear hl a; intro a hl
          refine wli nofun (fun _ _ h => h) (wl_val hl rfl trivial (r_field hl rfl fld73_1) ?_)
          clear hl a; intro a hl
          first | refine wli nofun (fun _ _ h => h) (w_load hl hh rfl trivial one29 rfl (by repeat (first | exact find_head | apply find_tail)) (by first | rfl) ?_) | refine wli nofun (fun _ _ h => h) (w_loadR hl hh rfl trivial one29 rfl hkb hkD rfl ?_) | refine wli nofun (fun _ _ h => h) (w_loadR hl hh rfl trivial one29 rfl hmc hcD rfl ?_) | refine wli nofun (fun _ _ h => h) (wl_val hl rfl trivial (r_load hl rfl one29 (hh.mem _ _ (List.mem_append_left _ hmb)) (by simpa using fl_cell (j := 0) (v := .int .u32 q.1) pc_len hq rfl junk)) ?_) | refine wli nofun (fun _ _ h => h) (wl_val hl rfl trivial (r_load hl rfl one29 (hh.mem _ _ (List.mem_append_left _ hmb)) (by simpa using fl_cell (j := 1) (v := .int .u32 q.2) pc_len hq rfl junk)) ?_)
          clear hl a; intro a hl
          refine wli nofun (fun _ _ h => h) (wl_val hl rfl trivial (r_assign hl rfl) ?_)
          clear hl a; intro a hl
          refine wi_nil ?_
          have hl2 := hl.add (t := 0) (hl.add (t := 1) (hl.add (t := 3) (hl.add (t := 4) (hl.add (t := 5) (hl.nil) rfl) rfl) rfl) rfl) rfl; clear hl; have hl := hl2; clear hl2
          refine blk_normal ?_
          refine then_normal ?_
          refine i_region ?_
          refine wli nofun (fun _ _ h => h) (wl_val hl rfl trivial (r_move hl rfl) ?_)
          clear hl a; intro a hl
          first | refine wli nofun (fun _ _ h => h) (wl_val hl rfl trivial (r_add hl rfl rfl (by simp only [Fits]; omega)) ?_) | refine wli nofun (fun _ _ h => h) (wl_val hl rfl trivial (r_addW hl rfl rfl) ?_)
          clear hl a; intro a hl
          refine wli nofun (fun _ _ h => h) (wl_val hl rfl trivial (r_assign hl rfl) ?_)
          clear hl a; intro a hl
          refine wi_nil ?_
          have hl2 := hl.add (t := 0) (hl.add (t := 1) (hl.add (t := 3) (hl.add (t := 4) (hl.add (t := 5) (hl.nil) rfl) rfl) rfl) rfl) rfl; clear hl; have hl := hl2; clear hl2
          refine then_normal ?_
          refine ⟨⟨i + 1, cu2, _⟩, (by simp only; omega), ⟨hct9, hI9 _ rfl⟩, hl.addE (t := 5) (hl.addE (t := 4) (hl.addE (t := 0) (hl.addE (t := 1) (hl.addE (t := 3) (hl.nil) rfl (by first | rfl | exact congrArg (Value.int .i64) (i_succ i))) rfl (by first | rfl | exact congrArg (Value.int .i64) (i_succ i))) rfl (by first | rfl | exact congrArg (Value.int .i64) (i_succ i))) rfl (by first | rfl | exact congrArg (Value.int .i64) (i_succ i))) rfl (by first | rfl | exact congrArg (Value.int .i64) (i_succ i)), hh.keep (by repeat (first | exact keeps_nil | apply keeps_cons (by repeat (first | exact find_head | apply find_tail)) (by first  | rfl) | exact keeps_self | exact keeps_left | exact keeps_right | exact keeps_swap | apply keeps_mv))⟩
    · intro hc1
      try simp only [decide_eq_true_eq, decide_eq_false_iff_not, Bool.not_eq_true', Bool.not_eq_false', Bool.not_eq_true, Bool.not_eq_false, Bool.and_eq_true, Bool.or_eq_true, Bool.and_eq_false_iff, Bool.or_eq_false_iff, Bool.not_not, ne_eq, Int.not_lt, Int.not_le, Decidable.not_not, beq_iff_eq, bne_iff_ne] at hc1
      obtain ⟨e_, he_⟩ : ∃ z, z = s.nxt := ⟨_, rfl⟩
      rw [← he_] at hl
      have htl : decide ((i : Int) = (bl.length : Int)) = true := by simp; omega
      obtain ⟨rest, hrest⟩ : ∃ z : List Hole, z = [] := ⟨_, rfl⟩
      have htd : cur ++ (hsegP s bl a_ e_ true ++ rest) = holesP s bl := by rw [← hpr, holesF_end (by omega), he_, hrest, List.append_nil]
      refine i_skip ?_
      refine then_normal ?_
      refine i_seq ?_
      refine i_region ?_
      refine wli nofun (fun _ _ h => h) (wl_val hl rfl trivial (r_move hl rfl) ?_)
      clear hl a; intro a hl
      refine wli nofun (fun _ _ h => h) (wl_val hl rfl trivial (r_move hl rfl) ?_)
      clear hl a; intro a hl
      refine wli nofun (fun _ _ h => h) (wl_val hl rfl trivial (r_lenS hl rfl slc48) ?_)
      clear hl a; intro a hl
      refine wli nofun (fun _ _ h => h) (wl_val hl rfl trivial (r_eql hl rfl rfl) ?_)
      clear hl a; intro a hl
      rw [htl] at hl
      refine wli nofun (fun _ _ h => h) (wl_val hl rfl trivial (r_assign hl rfl) ?_)
      clear hl a; intro a hl
      refine wi_nil ?_
      have hl2 := hl.add (t := 0) (hl.add (t := 1) (hl.add (t := 3) (hl.add (t := 4) (hl.add (t := 5) (hl.add (t := 6) (hl.add (t := 7) (hl.nil) rfl) rfl) rfl) rfl) rfl) rfl) rfl; clear hl; have hl := hl2; clear hl2
      refine then_normal ?_
      refine i_seq ?_
      refine i_seq ?_
      refine i_region ?_
      first | refine wli nofun (fun _ _ h => h) (w_load hl hh rfl trivial one24 rfl (by repeat (first | exact find_head | apply find_tail)) (by first | rfl) ?_) | refine wli nofun (fun _ _ h => h) (w_loadR hl hh rfl trivial one24 rfl hkb hkD rfl ?_) | refine wli nofun (fun _ _ h => h) (w_loadR hl hh rfl trivial one24 rfl hmc hcD rfl ?_) | refine wli nofun (fun _ _ h => h) (wl_val hl rfl trivial (r_load hl rfl one24 (hh.mem _ _ (List.mem_append_left _ hmb)) (by simpa using fl_cell (j := 0) (v := .int .u32 q.1) pc_len hq rfl junk)) ?_) | refine wli nofun (fun _ _ h => h) (wl_val hl rfl trivial (r_load hl rfl one24 (hh.mem _ _ (List.mem_append_left _ hmb)) (by simpa using fl_cell (j := 1) (v := .int .u32 q.2) pc_len hq rfl junk)) ?_)
      clear hl a; intro a hl
      refine wli nofun (fun _ _ h => h) (wl_val hl rfl trivial (r_nilCheck hl rfl) ?_)
      clear hl a; intro a hl
      refine wli nofun (fun _ _ h => h) (wl_val hl rfl trivial (r_field hl rfl fld66_8) ?_)
      clear hl a; intro a hl
      first | refine wli nofun (fun _ _ h => h) (w_load hl hh rfl trivial one59 rfl (by repeat (first | exact find_head | apply find_tail)) (by first | rfl) ?_) | refine wli nofun (fun _ _ h => h) (w_loadR hl hh rfl trivial one59 rfl hkb hkD rfl ?_) | refine wli nofun (fun _ _ h => h) (w_loadR hl hh rfl trivial one59 rfl hmc hcD rfl ?_) | refine wli nofun (fun _ _ h => h) (wl_val hl rfl trivial (r_load hl rfl one59 (hh.mem _ _ (List.mem_append_left _ hmb)) (by simpa using fl_cell (j := 0) (v := .int .u32 q.1) pc_len hq rfl junk)) ?_) | refine wli nofun (fun _ _ h => h) (wl_val hl rfl trivial (r_load hl rfl one59 (hh.mem _ _ (List.mem_append_left _ hmb)) (by simpa using fl_cell (j := 1) (v := .int .u32 q.2) pc_len hq rfl junk)) ?_)
      clear hl a; intro a hl
      refine wli nofun (fun _ _ h => h) (wl_val hl rfl trivial (r_eql hl rfl rfl) ?_)
      clear hl a; intro a hl
      refine wli nofun (fun _ _ h => h) (wl_val hl rfl trivial (r_move hl rfl) ?_)
      clear hl a; intro a hl
      refine sl_split (t := 42) hl rfl ?_ ?_
      · intro hg7; clear hl; intro hl
        try simp only [decide_eq_true_eq, decide_eq_false_iff_not, Bool.not_eq_true', Bool.not_eq_false', Bool.not_eq_true, Bool.not_eq_false, Bool.and_eq_true, Bool.or_eq_true, Bool.and_eq_false_iff, Bool.or_eq_false_iff, Bool.not_not, ne_eq, Int.not_lt, Int.not_le, Decidable.not_not, beq_iff_eq, bne_iff_ne] at hg7
        refine wli nofun (fun _ _ h => h) (wl_val hl rfl ⟨_, _, rfl, rfl, rfl⟩ (r_move hl rfl) ?_)
        clear hl a; intro a hl
        first | refine wli nofun (fun _ _ h => h) (w_load hl hh rfl ⟨_, _, rfl, rfl, rfl⟩ one24 rfl (by repeat (first | exact find_head | apply find_tail)) (by first | rfl) ?_) | refine wli nofun (fun _ _ h => h) (w_loadR hl hh rfl ⟨_, _, rfl, rfl, rfl⟩ one24 rfl hkb hkD rfl ?_) | refine wli nofun (fun _ _ h => h) (w_loadR hl hh rfl ⟨_, _, rfl, rfl, rfl⟩ one24 rfl hmc hcD rfl ?_) | refine wli nofun (fun _ _ h => h) (wl_val hl rfl ⟨_, _, rfl, rfl, rfl⟩ (r_load hl rfl one24 (hh.mem _ _ (List.mem_append_left _ hmb)) (by simpa using fl_cell (j := 0) (v := .int .u32 q.1) pc_len hq rfl junk)) ?_) | refine wli nofun (fun _ _ h => h) (wl_val hl rfl ⟨_, _, rfl, rfl, rfl⟩ (r_load hl rfl one24 (hh.mem _ _ (List.mem_append_left _ hmb)) (by simpa using fl_cell (j := 1) (v := .int .u32 q.2) pc_len hq rfl junk)) ?_)
        clear hl a; intro a hl
        refine wli nofun (fun _ _ h => h) (wl_val hl rfl ⟨_, _, rfl, rfl, rfl⟩ (r_nilCheck hl rfl) ?_)
        clear hl a; intro a hl
        refine wli nofun (fun _ _ h => h) (wl_val hl rfl ⟨_, _, rfl, rfl, rfl⟩ (r_field hl rfl fld66_9) ?_)
        clear hl a; intro a hl
        first | refine wli nofun (fun _ _ h => h) (w_load hl hh rfl ⟨_, _, rfl, rfl, rfl⟩ one29 rfl (by repeat (first | exact find_head | apply find_tail)) (by first | rfl) ?_) | refine wli nofun (fun _ _ h => h) (w_loadR hl hh rfl ⟨_, _, rfl, rfl, rfl⟩ one29 rfl hkb hkD rfl ?_) | refine wli nofun (fun _ _ h => h) (w_loadR hl hh rfl ⟨_, _, rfl, rfl, rfl⟩ one29 rfl hmc hcD rfl ?_) | refine wli nofun (fun _ _ h => h) (wl_val hl rfl ⟨_, _, rfl, rfl, rfl⟩ (r_load hl rfl one29 (hh.mem _ _ (List.mem_append_left _ hmb)) (by simpa using fl_cell (j := 0) (v := .int .u32 q.1) pc_len hq rfl junk)) ?_) | refine wli nofun (fun _ _ h => h) (wl_val hl rfl ⟨_, _, rfl, rfl, rfl⟩ (r_load hl rfl one29 (hh.mem _ _ (List.mem_append_left _ hmb)) (by simpa using fl_cell (j := 1) (v := .int .u32 q.2) pc_len hq rfl junk)) ?_)
        clear hl a; intro a hl
        refine wli nofun (fun _ _ h => h) (w_call hl hh rfl ⟨_, _, rfl, rfl, rfl⟩ rfl cal39 rfl (less_spec _ _) (by repeat (first | exact keeps_nil | apply keeps_cons (by repeat (first | exact find_head | apply find_tail)) (by first  | rfl) | exact keeps_self | exact keeps_left | exact keeps_right | exact keeps_swap | apply keeps_mv)) trivial ?_)
        clear hl hh a w; intro vc Fc a w hR hl hh
        obtain ⟨rfl, rfl⟩ := hR
        try simp only [List.cons_append, List.nil_append] at hh
        refine wli nofun (fun _ _ h => h) (wl_val hl rfl trivial (r_pickT hl rfl rfl) ?_)
        clear hl a; intro a hl
        refine wli nofun (fun _ _ h => h) (wl_val hl rfl trivial (r_move hl rfl) ?_)
        clear hl a; intro a hl
        refine sl_split (t := 50) hl rfl ?_ ?_
        · intro hg8; clear hl; intro hl
          try simp only [decide_eq_true_eq, decide_eq_false_iff_not, Bool.not_eq_true', Bool.not_eq_false', Bool.not_eq_true, Bool.not_eq_false, Bool.and_eq_true, Bool.or_eq_true, Bool.and_eq_false_iff, Bool.or_eq_false_iff, Bool.not_not, ne_eq, Int.not_lt, Int.not_le, Decidable.not_not, beq_iff_eq, bne_iff_ne] at hg8
          first | refine wli nofun (fun _ _ h => h) (w_load hl hh rfl ⟨_, _, rfl, rfl, rfl⟩ one24 rfl (by repeat (first | exact find_head | apply find_tail)) (by first | rfl) ?_) | refine wli nofun (fun _ _ h => h) (w_loadR hl hh rfl ⟨_, _, rfl, rfl, rfl⟩ one24 rfl hkb hkD rfl ?_) | refine wli nofun (fun _ _ h => h) (w_loadR hl hh rfl ⟨_, _, rfl, rfl, rfl⟩ one24 rfl hmc hcD rfl ?_) | refine wli nofun (fun _ _ h => h) (wl_val hl rfl ⟨_, _, rfl, rfl, rfl⟩ (r_load hl rfl one24 (hh.mem _ _ (List.mem_append_left _ hmb)) (by simpa using fl_cell (j := 0) (v := .int .u32 q.1) pc_len hq rfl junk)) ?_) | refine wli nofun (fun _ _ h => h) (wl_val hl rfl ⟨_, _, rfl, rfl, rfl⟩ (r_load hl rfl one24 (hh.mem _ _ (List.mem_append_left _ hmb)) (by simpa using fl_cell (j := 1) (v := .int .u32 q.2) pc_len hq rfl junk)) ?_)
          clear hl a; intro a hl
          refine wli nofun (fun _ _ h => h) (wl_val hl rfl ⟨_, _, rfl, rfl, rfl⟩ (r_nilCheck hl rfl) ?_)
          clear hl a; intro a hl
          refine wli nofun (fun _ _ h => h) (wl_val hl rfl ⟨_, _, rfl, rfl, rfl⟩ (r_field hl rfl fld66_9) ?_)
          clear hl a; intro a hl
          first | refine wli nofun (fun _ _ h => h) (w_load hl hh rfl ⟨_, _, rfl, rfl, rfl⟩ one29 rfl (by repeat (first | exact find_head | apply find_tail)) (by first | rfl) ?_) | refine wli nofun (fun _ _ h => h) (w_loadR hl hh rfl ⟨_, _, rfl, rfl, rfl⟩ one29 rfl hkb hkD rfl ?_) | refine wli nofun (fun _ _ h => h) (w_loadR hl hh rfl ⟨_, _, rfl, rfl, rfl⟩ one29 rfl hmc hcD rfl ?_) | refine wli nofun (fun _ _ h => h) (wl_val hl rfl ⟨_, _, rfl, rfl, rfl⟩ (r_load hl rfl one29 (hh.mem _ _ (List.mem_append_left _ hmb)) (by simpa using fl_cell (j := 0) (v := .int .u32 q.1) pc_len hq rfl junk)) ?_) | refine wli nofun (fun _ _ h => h) (wl_val hl rfl ⟨_, _, rfl, rfl, rfl⟩ (r_load hl rfl one29 (hh.mem _ _ (List.mem_append_left _ hmb)) (by simpa using fl_cell (j := 1) (v := .int .u32 q.2) pc_len hq rfl junk)) ?_)
          clear hl a; intro a hl
          refine wli nofun (fun _ _ h => h) (wl_val hl rfl ⟨_, _, rfl, rfl, rfl⟩ (r_move hl rfl) ?_)
          clear hl a; intro a hl
          refine wli nofun (fun _ _ h => h) (w_call hl hh rfl ⟨_, _, rfl, rfl, rfl⟩ rfl cal39 rfl (less_spec _ _) (by repeat (first | exact keeps_nil | apply keeps_cons (by repeat (first | exact find_head | apply find_tail)) (by first  | rfl) | exact keeps_self | exact keeps_left | exact keeps_right | exact keeps_swap | apply keeps_mv)) trivial ?_)
          clear hl hh a w; intro vc Fc a w hR hl hh
          obtain ⟨rfl, rfl⟩ := hR
          try simp only [List.cons_append, List.nil_append] at hh
          refine wli nofun (fun _ _ h => h) (wl_val hl rfl trivial (r_pickT hl rfl rfl) ?_)
          clear hl a; intro a hl
          refine wi_nil ?_
          have hl2 := hl.add (t := 0) (hl.add (t := 1) (hl.add (t := 3) (hl.add (t := 4) (hl.add (t := 5) (hl.add (t := 6) (hl.add (t := 7) (hl.add (t := 57) (hl.nil) rfl) rfl) rfl) rfl) rfl) rfl) rfl) rfl; clear hl; have hl := hl2; clear hl2
          refine then_normal ?_
          refine i_cond hl rfl ?_ ?_
          · intro hc2
            try simp only [decide_eq_true_eq, decide_eq_false_iff_not, Bool.not_eq_true', Bool.not_eq_false', Bool.not_eq_true, Bool.not_eq_false, Bool.and_eq_true, Bool.or_eq_true, Bool.and_eq_false_iff, Bool.or_eq_false_iff, Bool.not_not, ne_eq, Int.not_lt, Int.not_le, Decidable.not_not, beq_iff_eq, bne_iff_ne] at hc2
            have htd2 := seg_two htd (by assumption) (by assumption) hc2
            have hnil := fun c : List Hole => seg_dead (s := s) (cur := c) (rest := rest) (all := holesP s bl) hc2
            refine i_seq ?_
            refine i_seq ?_
            refine i_region ?_
            refine wli nofun (fun _ _ h => h) (wl_val hl rfl trivial (r_move hl rfl) ?_)
            clear hl a; intro a hl
            refine wli nofun (fun _ _ h => h) (wl_val hl rfl trivial (r_move hl rfl) ?_)
            clear hl a; intro a hl
            first | refine wli nofun (fun _ _ h => h) (w_load hl hh rfl trivial one24 rfl (by repeat (first | exact find_head | apply find_tail)) (by first | rfl) ?_) | refine wli nofun (fun _ _ h => h) (w_loadR hl hh rfl trivial one24 rfl hkb hkD rfl ?_) | refine wli nofun (fun _ _ h => h) (w_loadR hl hh rfl trivial one24 rfl hmc hcD rfl ?_) | refine wli nofun (fun _ _ h => h) (wl_val hl rfl trivial (r_load hl rfl one24 (hh.mem _ _ (List.mem_append_left _ hmb)) (by simpa using fl_cell (j := 0) (v := .int .u32 q.1) pc_len hq rfl junk)) ?_) | refine wli nofun (fun _ _ h => h) (wl_val hl rfl trivial (r_load hl rfl one24 (hh.mem _ _ (List.mem_append_left _ hmb)) (by simpa using fl_cell (j := 1) (v := .int .u32 q.2) pc_len hq rfl junk)) ?_)
            clear hl a; intro a hl
            refine wli nofun (fun _ _ h => h) (wl_val hl rfl trivial (r_nilCheck hl rfl) ?_)
            clear hl a; intro a hl
            refine wli nofun (fun _ _ h => h) (wl_val hl rfl trivial (r_field hl rfl fld66_9) ?_)
            clear hl a; intro a hl
            first | refine wli nofun (fun _ _ h => h) (w_load hl hh rfl trivial one29 rfl (by repeat (first | exact find_head | apply find_tail)) (by first | rfl) ?_) | refine wli nofun (fun _ _ h => h) (w_loadR hl hh rfl trivial one29 rfl hkb hkD rfl ?_) | refine wli nofun (fun _ _ h => h) (w_loadR hl hh rfl trivial one29 rfl hmc hcD rfl ?_) | refine wli nofun (fun _ _ h => h) (wl_val hl rfl trivial (r_load hl rfl one29 (hh.mem _ _ (List.mem_append_left _ hmb)) (by simpa using fl_cell (j := 0) (v := .int .u32 q.1) pc_len hq rfl junk)) ?_) | refine wli nofun (fun _ _ h => h) (wl_val hl rfl trivial (r_load hl rfl one29 (hh.mem _ _ (List.mem_append_left _ hmb)) (by simpa using fl_cell (j := 1) (v := .int .u32 q.2) pc_len hq rfl junk)) ?_)
            clear hl a; intro a hl
            refine wli nofun (fun _ _ h => h) (wl_val hl rfl trivial (r_move hl rfl) ?_)
            clear hl a; intro a hl
            refine wli nofun (fun _ _ h => h) (wl_val hl rfl trivial (r_build hl rfl zero93 bld93 (by simp only [fillL, setL, List.getElem?_cons_zero, List.getElem?_cons_succ, Value.cells, List.take_zero, List.take_succ_cons, List.take_nil, List.drop_zero, List.drop_succ_cons, List.drop_nil, List.length_cons, List.length_nil, List.cons_append, List.nil_append, List.append_nil, Nat.zero_add, Nat.add_zero, Nat.reduceAdd, Nat.reduceBEq, Nat.reduceEqDiff, Nat.ble, BEq.rfl, Bool.and_true, Bool.and_self, cond_true, beq_self_eq_true]; rfl)) ?_)
            clear hl a; intro a hl
            refine wli_yield hl hh rfl trivial rfl rfl (hy cur _ (pre_of htd2) hct) keeps_right (mem_keepD hh hmZ hdis) ?_
            clear hl hh a w; intro vc Fc a w hR hl hh
            rcases hR with ⟨rfl, hc2x, hF⟩ | ⟨rfl, hst, rfl⟩
            ·
              try simp only [List.cons_append, List.nil_append, List.append_nil] at hh
              obtain ⟨cu1, hF1, hct1, htd3⟩ := next_ex htd2 hc2x hF
              subst hF1
              replace hh := hh.comm
              have hcons := fun _ : lessP s.recov e_ = true => htd3
              replace hnil := hnil cu1
              refine wli nofun (fun _ _ h => h) (wl_val hl rfl trivial (r_not hl rfl) ?_)
              clear hl a; intro a hl
              refine wi_nil ?_
              have hl2 := hl.add (t := 0) (hl.add (t := 1) (hl.add (t := 3) (hl.add (t := 5) (hl.add (t := 6) (hl.add (t := 7) (hl.add (t := 67) (hl.nil) rfl) rfl) rfl) rfl) rfl) rfl) rfl; clear hl; have hl := hl2; clear hl2
              refine then_normal ?_
              refine i_condF hl rfl ?_
              refine i_skip ?_
              refine then_normal ?_
              refine i_region ?_
              first | refine wli nofun (fun _ _ h => h) (w_load hl hh rfl trivial one24 rfl (by repeat (first | exact find_head | apply find_tail)) (by first | rfl) ?_) | refine wli nofun (fun _ _ h => h) (w_loadR hl hh rfl trivial one24 rfl hkb hkD rfl ?_) | refine wli nofun (fun _ _ h => h) (w_loadR hl hh rfl trivial one24 rfl hmc hcD rfl ?_) | refine wli nofun (fun _ _ h => h) (wl_val hl rfl trivial (r_load hl rfl one24 (hh.mem _ _ (List.mem_append_left _ hmb)) (by simpa using fl_cell (j := 0) (v := .int .u32 q.1) pc_len hq rfl junk)) ?_) | refine wli nofun (fun _ _ h => h) (wl_val hl rfl trivial (r_load hl rfl one24 (hh.mem _ _ (List.mem_append_left _ hmb)) (by simpa using fl_cell (j := 1) (v := .int .u32 q.2) pc_len hq rfl junk)) ?_)
              clear hl a; intro a hl
              refine wli nofun (fun _ _ h => h) (wl_val hl rfl trivial (r_nilCheck hl rfl) ?_)
              clear hl a; intro a hl
              refine wli nofun (fun _ _ h => h) (wl_val hl rfl trivial (r_field hl rfl fld66_9) ?_)
              clear hl a; intro a hl
              first | refine wli nofun (fun _ _ h => h) (w_load hl hh rfl trivial one29 rfl (by repeat (first | exact find_head | apply find_tail)) (by first | rfl) ?_) | refine wli nofun (fun _ _ h => h) (w_loadR hl hh rfl trivial one29 rfl hkb hkD rfl ?_) | refine wli nofun (fun _ _ h => h) (w_loadR hl hh rfl trivial one29 rfl hmc hcD rfl ?_) | refine wli nofun (fun _ _ h => h) (wl_val hl rfl trivial (r_load hl rfl one29 (hh.mem _ _ (List.mem_append_left _ hmb)) (by simpa using fl_cell (j := 0) (v := .int .u32 q.1) pc_len hq rfl junk)) ?_) | refine wli nofun (fun _ _ h => h) (wl_val hl rfl trivial (r_load hl rfl one29 (hh.mem _ _ (List.mem_append_left _ hmb)) (by simpa using fl_cell (j := 1) (v := .int .u32 q.2) pc_len hq rfl junk)) ?_)
              clear hl a; intro a hl
              refine wli nofun (fun _ _ h => h) (wl_val hl rfl trivial (r_assign hl rfl) ?_)
              clear hl a; intro a hl
              refine wi_nil ?_
              have hl2 := hl.add (t := 0) (hl.add (t := 1) (hl.add (t := 3) (hl.add (t := 4) (hl.add (t := 5) (hl.add (t := 6) (hl.add (t := 7) (hl.nil) rfl) rfl) rfl) rfl) rfl) rfl) rfl; clear hl; have hl := hl2; clear hl2
              refine then_normal ?_
              refine i_seq ?_
              refine i_seq ?_
              refine i_region ?_
              refine wli nofun (fun _ _ h => h) (wl_val hl rfl trivial (r_move hl rfl) ?_)
              clear hl a; intro a hl
              refine wli nofun (fun _ _ h => h) (wl_val hl rfl trivial (r_move hl rfl) ?_)
              clear hl a; intro a hl
              refine wli nofun (fun _ _ h => h) (w_call hl hh rfl trivial rfl cal39 rfl (less_spec _ _) (by repeat (first | exact keeps_nil | apply keeps_cons (by repeat (first | exact find_head | apply find_tail)) (by first  | rfl) | exact keeps_self | exact keeps_left | exact keeps_right | exact keeps_swap | apply keeps_mv)) trivial ?_)
              clear hl hh a w; intro vc Fc a w hR hl hh
              obtain ⟨rfl, rfl⟩ := hR
              try simp only [List.cons_append, List.nil_append] at hh
              refine wli nofun (fun _ _ h => h) (wl_val hl rfl trivial (r_move hl rfl) ?_)
              clear hl a; intro a hl
              refine sl_split (t := 75) hl rfl ?_ ?_
              · intro hg9; clear hl; intro hl
                try simp only [decide_eq_true_eq, decide_eq_false_iff_not, Bool.not_eq_true', Bool.not_eq_false', Bool.not_eq_true, Bool.not_eq_false, Bool.and_eq_true, Bool.or_eq_true, Bool.and_eq_false_iff, Bool.or_eq_false_iff, Bool.not_not, ne_eq, Int.not_lt, Int.not_le, Decidable.not_not, beq_iff_eq, bne_iff_ne] at hg9
                refine wli nofun (fun _ _ h => h) (wl_val hl rfl ⟨_, _, rfl, rfl, rfl⟩ (r_move hl rfl) ?_)
                clear hl a; intro a hl
                refine wli nofun (fun _ _ h => h) (wl_val hl rfl ⟨_, _, rfl, rfl, rfl⟩ (r_move hl rfl) ?_)
                clear hl a; intro a hl
                refine wli nofun (fun _ _ h => h) (wl_val hl rfl ⟨_, _, rfl, rfl, rfl⟩ (r_move hl rfl) ?_)
                clear hl a; intro a hl
                first | refine wli nofun (fun _ _ h => h) (w_load hl hh rfl ⟨_, _, rfl, rfl, rfl⟩ one24 rfl (by repeat (first | exact find_head | apply find_tail)) (by first | rfl) ?_) | refine wli nofun (fun _ _ h => h) (w_loadR hl hh rfl ⟨_, _, rfl, rfl, rfl⟩ one24 rfl hkb hkD rfl ?_) | refine wli nofun (fun _ _ h => h) (w_loadR hl hh rfl ⟨_, _, rfl, rfl, rfl⟩ one24 rfl hmc hcD rfl ?_) | refine wli nofun (fun _ _ h => h) (wl_val hl rfl ⟨_, _, rfl, rfl, rfl⟩ (r_load hl rfl one24 (hh.mem _ _ (List.mem_append_left _ hmb)) (by simpa using fl_cell (j := 0) (v := .int .u32 q.1) pc_len hq rfl junk)) ?_) | refine wli nofun (fun _ _ h => h) (wl_val hl rfl ⟨_, _, rfl, rfl, rfl⟩ (r_load hl rfl one24 (hh.mem _ _ (List.mem_append_left _ hmb)) (by simpa using fl_cell (j := 1) (v := .int .u32 q.2) pc_len hq rfl junk)) ?_)
                clear hl a; intro a hl
                refine wli nofun (fun _ _ h => h) (wl_val hl rfl ⟨_, _, rfl, rfl, rfl⟩ (r_move hl rfl) ?_)
                clear hl a; intro a hl
                refine wli nofun (fun _ _ h => h) (wl_val hl rfl ⟨_, _, rfl, rfl, rfl⟩ (r_move hl rfl) ?_)
                clear hl a; intro a hl
                refine wli nofun (fun _ _ h => h) (w_call hl hh rfl ⟨_, _, rfl, rfl, rfl⟩ rfl cal69 rfl (isLost_spec cp s sp hs _ bl hbl _ cB HS0 hRb) (by repeat (first | exact keeps_nil | apply keeps_cons (by repeat (first | exact find_head | apply find_tail)) (by first  | rfl) | exact keeps_self | exact keeps_left | exact keeps_right | exact keeps_swap | apply keeps_mv)) ⟨hh.old hmc hcD, fun b o m => hh.mem b o (List.mem_append_left _ m)⟩ ?_)
                clear hl hh a w; intro vc Fc a w hR hl hh
                obtain ⟨rfl, rfl⟩ := hR
                try simp only [List.cons_append, List.nil_append] at hh
                refine wli nofun (fun _ _ h => h) (wl_val hl rfl ⟨_, _, rfl, rfl, rfl⟩ (r_move hl rfl) ?_)
                clear hl a; intro a hl
                refine wli nofun (fun _ _ h => h) (wl_val hl rfl ⟨_, _, rfl, rfl, rfl⟩ (r_build hl rfl zero93 bld93 (by simp only [fillL, setL, List.getElem?_cons_zero, List.getElem?_cons_succ, Value.cells, List.take_zero, List.take_succ_cons, List.take_nil, List.drop_zero, List.drop_succ_cons, List.drop_nil, List.length_cons, List.length_nil, List.cons_append, List.nil_append, List.append_nil, Nat.zero_add, Nat.add_zero, Nat.reduceAdd, Nat.reduceBEq, Nat.reduceEqDiff, Nat.ble, BEq.rfl, Bool.and_true, Bool.and_self, cond_true, beq_self_eq_true]; rfl)) ?_)
                clear hl a; intro a hl
                refine wli_yield hl hh rfl ⟨_, _, rfl, rfl, rfl⟩ rfl rfl (hy cu1 _ (pre_of (hcons (by assumption))) hct1) keeps_right (mem_keepD hh hmZ hdis) ?_
                clear hl hh a w; intro vc Fc a w hR hl hh
                rcases hR with ⟨rfl, hc2x, hF⟩ | ⟨rfl, hst, rfl⟩
                ·
                  try simp only [List.cons_append, List.nil_append, List.append_nil] at hh
                  obtain ⟨cu2, hF2, hct9, htd9⟩ := next_ex (hcons (by assumption)) hc2x hF
                  subst hF2
                  replace hh := hh.comm
                  refine wli nofun (fun _ _ h => h) (wl_val hl rfl ⟨_, _, rfl, rfl, rfl⟩ (r_not hl rfl) ?_)
                  clear hl a; intro a hl
                  refine wli nofun (fun _ _ h => h) (wl_val hl rfl trivial (r_pickT hl rfl rfl) ?_)
                  clear hl a; intro a hl
                  refine wi_nil ?_
                  have hl2 := hl.add (t := 0) (hl.add (t := 1) (hl.add (t := 3) (hl.add (t := 4) (hl.add (t := 5) (hl.add (t := 7) (hl.add (t := 87) (hl.nil) rfl) rfl) rfl) rfl) rfl) rfl) rfl; clear hl; have hl := hl2; clear hl2
                  first | have htd8 := htd9 | (obtain ⟨cu2, hcu2⟩ : ∃ z, z = cu1 := ⟨_, rfl⟩; have htd9 : cu2 ++ rest = holesP s bl := (by rw [hcu2]; exact hnil (by assumption)); have hct9 : Cont cu2 := (by rw [hcu2]; exact hct1); rw [← hcu2] at hh) | skip
                  refine then_normal ?_
                  refine i_condF hl rfl ?_
                  refine i_skip ?_
                  refine then_normal ?_
                  refine i_seq ?_
                  refine i_region ?_
                  refine wli nofun (fun _ _ h => h) (wl_val hl rfl trivial (r_move hl rfl) ?_)
                  clear hl a; intro a hl
                  refine wli nofun (fun _ _ h => h) (wl_val hl rfl trivial (r_not hl rfl) ?_)
                  clear hl a; intro a hl
                  refine wi_nil ?_
                  have hl2 := hl.add (t := 0) (hl.add (t := 1) (hl.add (t := 3) (hl.add (t := 4) (hl.add (t := 5) (hl.add (t := 89) (hl.nil) rfl) rfl) rfl) rfl) rfl) rfl; clear hl; have hl := hl2; clear hl2
                  refine then_normal ?_
                  refine i_condF hl rfl ?_
                  have hI9 : ∀ a : Int, a = a → ((i + 1 ≤ bl.length ∧ cu2 ++ holesF s bl (bl.drop (i + 1)) a = holesP s bl) ∨ (i + 1 = bl.length + 1 ∧ cu2 = holesP s bl)) := fun a _ => .inr ⟨by omega, by rw [← htd9, hrest, List.append_nil]⟩
                  refine i_skip ?_
                  refine blk_normal ?_
                  refine then_normal ?_
                  refine i_region ?_
                  refine wli nofun (fun _ _ h => h) (wl_val hl rfl trivial (r_move hl rfl) ?_)
                  clear hl a; intro a hl
                  first | refine wli nofun (fun _ _ h => h) (wl_val hl rfl trivial (r_add hl rfl rfl (by simp only [Fits]; omega)) ?_) | refine wli nofun (fun _ _ h => h) (wl_val hl rfl trivial (r_addW hl rfl rfl) ?_)
                  clear hl a; intro a hl
                  refine wli nofun (fun _ _ h => h) (wl_val hl rfl trivial (r_assign hl rfl) ?_)
                  clear hl a; intro a hl
                  refine wi_nil ?_
                  have hl2 := hl.add (t := 0) (hl.add (t := 1) (hl.add (t := 3) (hl.add (t := 4) (hl.add (t := 5) (hl.nil) rfl) rfl) rfl) rfl) rfl; clear hl; have hl := hl2; clear hl2
                  refine then_normal ?_
                  refine ⟨⟨i + 1, cu2, _⟩, (by simp only; omega), ⟨hct9, hI9 _ rfl⟩, hl.addE (t := 5) (hl.addE (t := 4) (hl.addE (t := 0) (hl.addE (t := 1) (hl.addE (t := 3) (hl.nil) rfl (by first | rfl | exact congrArg (Value.int .i64) (i_succ i))) rfl (by first | rfl | exact congrArg (Value.int .i64) (i_succ i))) rfl (by first | rfl | exact congrArg (Value.int .i64) (i_succ i))) rfl (by first | rfl | exact congrArg (Value.int .i64) (i_succ i))) rfl (by first | rfl | exact congrArg (Value.int .i64) (i_succ i)), hh.keep (by repeat (first | exact keeps_nil | apply keeps_cons (by repeat (first | exact find_head | apply find_tail)) (by first  | rfl) | exact keeps_self | exact keeps_left | exact keeps_right | exact keeps_swap | apply keeps_mv))⟩
                ·
                  try simp only [List.cons_append, List.nil_append, List.append_nil] at hh
                  replace hh := hh.comm
                  refine wli nofun (fun _ _ h => h) (wl_val hl rfl ⟨_, _, rfl, rfl, rfl⟩ (r_not hl rfl) ?_)
                  clear hl a; intro a hl
                  refine wli nofun (fun _ _ h => h) (wl_val hl rfl trivial (r_pickT hl rfl rfl) ?_)
                  clear hl a; intro a hl
                  refine wi_nil ?_
                  have hl2 := hl.add (t := 0) (hl.add (t := 1) (hl.add (t := 3) (hl.add (t := 4) (hl.add (t := 5) (hl.add (t := 7) (hl.add (t := 87) (hl.nil) rfl) rfl) rfl) rfl) rfl) rfl) rfl; clear hl; have hl := hl2; clear hl2
                  first | have htd8 := htd9 | (obtain ⟨cu2, hcu2⟩ : ∃ z, z = cu1 := ⟨_, rfl⟩; have htd9 : cu2 ++ rest = holesP s bl := (by rw [hcu2]; exact hnil (by assumption)); have hct9 : Cont cu2 := (by rw [hcu2]; exact hct1); rw [← hcu2] at hh) | skip
                  refine then_normal ?_
                  refine i_condT hl rfl ?_
                  refine i_ret ?_
                  refine then_ret ?_
                  refine blk_ret ?_
                  refine then_ret ?_
                  refine then_ret ?_
                  refine blk_ret ?_
                  refine f_ret0 (F' := Bx (cu1 ++ [_])) hl hh rfl (by repeat (first | exact keeps_nil | apply keeps_cons (by repeat (first | exact find_head | apply find_tail)) (by first  | rfl) | exact keeps_self | exact keeps_left | exact keeps_right | exact keeps_swap | apply keeps_mv)) ?_
                  exact ⟨rfl, .inr ⟨cu1, _, pre_of (hcons (by assumption)), hst, rfl⟩⟩
              · intro hg9; clear hl; intro hl
                try simp only [decide_eq_true_eq, decide_eq_false_iff_not, Bool.not_eq_true', Bool.not_eq_false', Bool.not_eq_true, Bool.not_eq_false, Bool.and_eq_true, Bool.or_eq_true, Bool.and_eq_false_iff, Bool.or_eq_false_iff, Bool.not_not, ne_eq, Int.not_lt, Int.not_le, Decidable.not_not, beq_iff_eq, bne_iff_ne] at hg9
                refine wli nofun (fun _ _ h => h) (wl_skip hl rfl ⟨_, _, rfl, rfl, rfl⟩ ?_)
                clear hl a; intro a hl
                refine wli nofun (fun _ _ h => h) (wl_skip hl rfl ⟨_, _, rfl, rfl, rfl⟩ ?_)
                clear hl a; intro a hl
                refine wli nofun (fun _ _ h => h) (wl_skip hl rfl ⟨_, _, rfl, rfl, rfl⟩ ?_)
                clear hl a; intro a hl
                refine wli nofun (fun _ _ h => h) (wl_skip hl rfl ⟨_, _, rfl, rfl, rfl⟩ ?_)
                clear hl a; intro a hl
                refine wli nofun (fun _ _ h => h) (wl_skip hl rfl ⟨_, _, rfl, rfl, rfl⟩ ?_)
                clear hl a; intro a hl
                refine wli nofun (fun _ _ h => h) (wl_skip hl rfl ⟨_, _, rfl, rfl, rfl⟩ ?_)
                clear hl a; intro a hl
                refine wli nofun (fun _ _ h => h) (wl_skip hl rfl ⟨_, _, rfl, rfl, rfl⟩ ?_)
                clear hl a; intro a hl
                refine wli nofun (fun _ _ h => h) (wl_skip hl rfl ⟨_, _, rfl, rfl, rfl⟩ ?_)
                clear hl a; intro a hl
                refine wli nofun (fun _ _ h => h) (wl_skip hl rfl ⟨_, _, rfl, rfl, rfl⟩ ?_)
                clear hl a; intro a hl
                refine wli nofun (fun _ _ h => h) (wl_skip hl rfl ⟨_, _, rfl, rfl, rfl⟩ ?_)
                clear hl a; intro a hl
                refine wli nofun (fun _ _ h => h) (wl_skip hl rfl ⟨_, _, rfl, rfl, rfl⟩ ?_)
                clear hl a; intro a hl
                refine wli nofun (fun _ _ h => h) (wl_val hl rfl trivial (r_pickF hl rfl rfl) ?_)
                clear hl a; intro a hl
                refine wi_nil ?_
                have hl2 := hl.add (t := 0) (hl.add (t := 1) (hl.add (t := 3) (hl.add (t := 4) (hl.add (t := 5) (hl.add (t := 7) (hl.add (t := 87) (hl.nil) rfl) rfl) rfl) rfl) rfl) rfl) rfl; clear hl; have hl := hl2; clear hl2
                first | have htd8 := htd9 | (obtain ⟨cu2, hcu2⟩ : ∃ z, z = cu1 := ⟨_, rfl⟩; have htd9 : cu2 ++ rest = holesP s bl := (by rw [hcu2]; exact hnil (by assumption)); have hct9 : Cont cu2 := (by rw [hcu2]; exact hct1); rw [← hcu2] at hh) | skip
                refine then_normal ?_
                refine i_condF hl rfl ?_
                refine i_skip ?_
                refine then_normal ?_
                refine i_seq ?_
                refine i_region ?_
                refine wli nofun (fun _ _ h => h) (wl_val hl rfl trivial (r_move hl rfl) ?_)
                clear hl a; intro a hl
                refine wli nofun (fun _ _ h => h) (wl_val hl rfl trivial (r_not hl rfl) ?_)
                clear hl a; intro a hl
                refine wi_nil ?_
                have hl2 := hl.add (t := 0) (hl.add (t := 1) (hl.add (t := 3) (hl.add (t := 4) (hl.add (t := 5) (hl.add (t := 89) (hl.nil) rfl) rfl) rfl) rfl) rfl) rfl; clear hl; have hl := hl2; clear hl2
                refine then_normal ?_
                refine i_condF hl rfl ?_
                have hI9 : ∀ a : Int, a = a → ((i + 1 ≤ bl.length ∧ cu2 ++ holesF s bl (bl.drop (i + 1)) a = holesP s bl) ∨ (i + 1 = bl.length + 1 ∧ cu2 = holesP s bl)) := fun a _ => .inr ⟨by omega, by rw [← htd9, hrest, List.append_nil]⟩
                refine i_skip ?_
                refine blk_normal ?_
                refine then_normal ?_
                refine i_region ?_
                refine wli nofun (fun _ _ h => h) (wl_val hl rfl trivial (r_move hl rfl) ?_)
                clear hl a; intro a hl
                first | refine wli nofun (fun _ _ h => h) (wl_val hl rfl trivial (r_add hl rfl rfl (by simp only [Fits]; omega)) ?_) | refine wli nofun (fun _ _ h => h) (wl_val hl rfl trivial (r_addW hl rfl rfl) ?_)
                clear hl a; intro a hl
                refine wli nofun (fun _ _ h => h) (wl_val hl rfl trivial (r_assign hl rfl) ?_)
                clear hl a; intro a hl
                refine wi_nil ?_
                have hl2 := hl.add (t := 0) (hl.add (t := 1) (hl.add (t := 3) (hl.add (t := 4) (hl.add (t := 5) (hl.nil) rfl) rfl) rfl) rfl) rfl; clear hl; have hl := hl2; clear hl2
                refine then_normal ?_
                refine ⟨⟨i + 1, cu2, _⟩, (by simp only; omega), ⟨hct9, hI9 _ rfl⟩, hl.addE (t := 5) (hl.addE (t := 4) (hl.addE (t := 0) (hl.addE (t := 1) (hl.addE (t := 3) (hl.nil) rfl (by first | rfl | exact congrArg (Value.int .i64) (i_succ i))) rfl (by first | rfl | exact congrArg (Value.int .i64) (i_succ i))) rfl (by first | rfl | exact congrArg (Value.int .i64) (i_succ i))) rfl (by first | rfl | exact congrArg (Value.int .i64) (i_succ i))) rfl (by first | rfl | exact congrArg (Value.int .i64) (i_succ i)), hh.keep (by repeat (first | exact keeps_nil | apply keeps_cons (by repeat (first | exact find_head | apply find_tail)) (by first  | rfl) | exact keeps_self | exact keeps_left | exact keeps_right | exact keeps_swap | apply keeps_mv))⟩
            ·
              try simp only [List.cons_append, List.nil_append, List.append_nil] at hh
              replace hh := hh.comm
              refine wli nofun (fun _ _ h => h) (wl_val hl rfl trivial (r_not hl rfl) ?_)
              clear hl a; intro a hl
              refine wi_nil ?_
              have hl2 := hl.add (t := 0) (hl.add (t := 1) (hl.add (t := 3) (hl.add (t := 5) (hl.add (t := 6) (hl.add (t := 7) (hl.add (t := 67) (hl.nil) rfl) rfl) rfl) rfl) rfl) rfl) rfl; clear hl; have hl := hl2; clear hl2
              refine then_normal ?_
              refine i_condT hl rfl ?_
              refine i_ret ?_
              refine then_ret ?_
              refine then_ret ?_
              refine blk_ret ?_
              refine then_ret ?_
              refine then_ret ?_
              refine blk_ret ?_
              refine f_ret0 (F' := Bx (cur ++ [_])) hl hh rfl (by repeat (first | exact keeps_nil | apply keeps_cons (by repeat (first | exact find_head | apply find_tail)) (by first  | rfl) | exact keeps_self | exact keeps_left | exact keeps_right | exact keeps_swap | apply keeps_mv)) ?_
              exact ⟨rfl, .inr ⟨cur, _, pre_of htd2, hst, rfl⟩⟩
          · intro hc2
            try simp only [decide_eq_true_eq, decide_eq_false_iff_not, Bool.not_eq_true', Bool.not_eq_false', Bool.not_eq_true, Bool.not_eq_false, Bool.and_eq_true, Bool.or_eq_true, Bool.and_eq_false_iff, Bool.or_eq_false_iff, Bool.not_not, ne_eq, Int.not_lt, Int.not_le, Decidable.not_not, beq_iff_eq, bne_iff_ne] at hc2
            have hnot : ¬ (s.phase = 2 ∧ lessP a_ s.recov = true ∧ lessP s.recov e_ = true) := by first | exact not3a (by assumption) | exact not3b (by assumption) | exact not3c (by assumption)
            obtain ⟨cu1, hcu1⟩ : ∃ z, z = cur := ⟨_, rfl⟩
            rw [← hcu1] at hh htd
            have hct1 : Cont cu1 := by rw [hcu1]; exact hct
            obtain ⟨hcons, hnil⟩ := seg_cons htd hnot
            refine i_skip ?_
            refine then_normal ?_
            refine i_seq ?_
            refine i_seq ?_
            refine i_region ?_
            refine wli nofun (fun _ _ h => h) (wl_val hl rfl trivial (r_move hl rfl) ?_)
            clear hl a; intro a hl
            refine wli nofun (fun _ _ h => h) (wl_val hl rfl trivial (r_move hl rfl) ?_)
            clear hl a; intro a hl
            refine wli nofun (fun _ _ h => h) (w_call hl hh rfl trivial rfl cal39 rfl (less_spec _ _) (by repeat (first | exact keeps_nil | apply keeps_cons (by repeat (first | exact find_head | apply find_tail)) (by first  | rfl) | exact keeps_self | exact keeps_left | exact keeps_right | exact keeps_swap | apply keeps_mv)) trivial ?_)
            clear hl hh a w; intro vc Fc a w hR hl hh
            obtain ⟨rfl, rfl⟩ := hR
            try simp only [List.cons_append, List.nil_append] at hh
            refine wli nofun (fun _ _ h => h) (wl_val hl rfl trivial (r_move hl rfl) ?_)
            clear hl a; intro a hl
            refine sl_split (t := 75) hl rfl ?_ ?_
            · intro hg10; clear hl; intro hl
              try simp only [decide_eq_true_eq, decide_eq_false_iff_not, Bool.not_eq_true', Bool.not_eq_false', Bool.not_eq_true, Bool.not_eq_false, Bool.and_eq_true, Bool.or_eq_true, Bool.and_eq_false_iff, Bool.or_eq_false_iff, Bool.not_not, ne_eq, Int.not_lt, Int.not_le, Decidable.not_not, beq_iff_eq, bne_iff_ne] at hg10
              refine wli nofun (fun _ _ h => h) (wl_val hl rfl ⟨_, _, rfl, rfl, rfl⟩ (r_move hl rfl) ?_)
              clear hl a; intro a hl
              refine wli nofun (fun _ _ h => h) (wl_val hl rfl ⟨_, _, rfl, rfl, rfl⟩ (r_move hl rfl) ?_)
              clear hl a; intro a hl
              refine wli nofun (fun _ _ h => h) (wl_val hl rfl ⟨_, _, rfl, rfl, rfl⟩ (r_move hl rfl) ?_)
              clear hl a; intro a hl
              first | refine wli nofun (fun _ _ h => h) (w_load hl hh rfl ⟨_, _, rfl, rfl, rfl⟩ one24 rfl (by repeat (first | exact find_head | apply find_tail)) (by first | rfl) ?_) | refine wli nofun (fun _ _ h => h) (w_loadR hl hh rfl ⟨_, _, rfl, rfl, rfl⟩ one24 rfl hkb hkD rfl ?_) | refine wli nofun (fun _ _ h => h) (w_loadR hl hh rfl ⟨_, _, rfl, rfl, rfl⟩ one24 rfl hmc hcD rfl ?_) | refine wli nofun (fun _ _ h => h) (wl_val hl rfl ⟨_, _, rfl, rfl, rfl⟩ (r_load hl rfl one24 (hh.mem _ _ (List.mem_append_left _ hmb)) (by simpa using fl_cell (j := 0) (v := .int .u32 q.1) pc_len hq rfl junk)) ?_) | refine wli nofun (fun _ _ h => h) (wl_val hl rfl ⟨_, _, rfl, rfl, rfl⟩ (r_load hl rfl one24 (hh.mem _ _ (List.mem_append_left _ hmb)) (by simpa using fl_cell (j := 1) (v := .int .u32 q.2) pc_len hq rfl junk)) ?_)
              clear hl a; intro a hl
              refine wli nofun (fun _ _ h => h) (wl_val hl rfl ⟨_, _, rfl, rfl, rfl⟩ (r_move hl rfl) ?_)
              clear hl a; intro a hl
              refine wli nofun (fun _ _ h => h) (wl_val hl rfl ⟨_, _, rfl, rfl, rfl⟩ (r_move hl rfl) ?_)
              clear hl a; intro a hl
              refine wli nofun (fun _ _ h => h) (w_call hl hh rfl ⟨_, _, rfl, rfl, rfl⟩ rfl cal69 rfl (isLost_spec cp s sp hs _ bl hbl _ cB HS0 hRb) (by repeat (first | exact keeps_nil | apply keeps_cons (by repeat (first | exact find_head | apply find_tail)) (by first  | rfl) | exact keeps_self | exact keeps_left | exact keeps_right | exact keeps_swap | apply keeps_mv)) ⟨hh.old hmc hcD, fun b o m => hh.mem b o (List.mem_append_left _ m)⟩ ?_)
              clear hl hh a w; intro vc Fc a w hR hl hh
              obtain ⟨rfl, rfl⟩ := hR
              try simp only [List.cons_append, List.nil_append] at hh
              refine wli nofun (fun _ _ h => h) (wl_val hl rfl ⟨_, _, rfl, rfl, rfl⟩ (r_move hl rfl) ?_)
              clear hl a; intro a hl
              refine wli nofun (fun _ _ h => h) (wl_val hl rfl ⟨_, _, rfl, rfl, rfl⟩ (r_build hl rfl zero93 bld93 (by simp only [fillL, setL, List.getElem?_cons_zero, List.getElem?_cons_succ, Value.cells, List.take_zero, List.take_succ_cons, List.take_nil, List.drop_zero, List.drop_succ_cons, List.drop_nil, List.length_cons, List.length_nil, List.cons_append, List.nil_append, List.append_nil, Nat.zero_add, Nat.add_zero, Nat.reduceAdd, Nat.reduceBEq, Nat.reduceEqDiff, Nat.ble, BEq.rfl, Bool.and_true, Bool.and_self, cond_true, beq_self_eq_true]; rfl)) ?_)
              clear hl a; intro a hl
              refine wli_yield hl hh rfl ⟨_, _, rfl, rfl, rfl⟩ rfl rfl (hy cu1 _ (pre_of (hcons (by assumption))) hct1) keeps_right (mem_keepD hh hmZ hdis) ?_
              clear hl hh a w; intro vc Fc a w hR hl hh
              rcases hR with ⟨rfl, hc2x, hF⟩ | ⟨rfl, hst, rfl⟩
              ·
                try simp only [List.cons_append, List.nil_append, List.append_nil] at hh
                obtain ⟨cu2, hF2, hct9, htd9⟩ := next_ex (hcons (by assumption)) hc2x hF
                subst hF2
                replace hh := hh.comm
                refine wli nofun (fun _ _ h => h) (wl_val hl rfl ⟨_, _, rfl, rfl, rfl⟩ (r_not hl rfl) ?_)
                clear hl a; intro a hl
                refine wli nofun (fun _ _ h => h) (wl_val hl rfl trivial (r_pickT hl rfl rfl) ?_)
                clear hl a; intro a hl
                refine wi_nil ?_
                have hl2 := hl.add (t := 0) (hl.add (t := 1) (hl.add (t := 3) (hl.add (t := 4) (hl.add (t := 5) (hl.add (t := 7) (hl.add (t := 87) (hl.nil) rfl) rfl) rfl) rfl) rfl) rfl) rfl; clear hl; have hl := hl2; clear hl2
                first | have htd8 := htd9 | (obtain ⟨cu2, hcu2⟩ : ∃ z, z = cu1 := ⟨_, rfl⟩; have htd9 : cu2 ++ rest = holesP s bl := (by rw [hcu2]; exact hnil (by assumption)); have hct9 : Cont cu2 := (by rw [hcu2]; exact hct1); rw [← hcu2] at hh) | skip
                refine then_normal ?_
                refine i_condF hl rfl ?_
                refine i_skip ?_
                refine then_normal ?_
                refine i_seq ?_
                refine i_region ?_
                refine wli nofun (fun _ _ h => h) (wl_val hl rfl trivial (r_move hl rfl) ?_)
                clear hl a; intro a hl
                refine wli nofun (fun _ _ h => h) (wl_val hl rfl trivial (r_not hl rfl) ?_)
                clear hl a; intro a hl
                refine wi_nil ?_
                have hl2 := hl.add (t := 0) (hl.add (t := 1) (hl.add (t := 3) (hl.add (t := 4) (hl.add (t := 5) (hl.add (t := 89) (hl.nil) rfl) rfl) rfl) rfl) rfl) rfl; clear hl; have hl := hl2; clear hl2
                refine then_normal ?_
                refine i_condF hl rfl ?_
                have hI9 : ∀ a : Int, a = a → ((i + 1 ≤ bl.length ∧ cu2 ++ holesF s bl (bl.drop (i + 1)) a = holesP s bl) ∨ (i + 1 = bl.length + 1 ∧ cu2 = holesP s bl)) := fun a _ => .inr ⟨by omega, by rw [← htd9, hrest, List.append_nil]⟩
                refine i_skip ?_
                refine blk_normal ?_
                refine then_normal ?_
                refine i_region ?_
                refine wli nofun (fun _ _ h => h) (wl_val hl rfl trivial (r_move hl rfl) ?_)
                clear hl a; intro a hl
                first | refine wli nofun (fun _ _ h => h) (wl_val hl rfl trivial (r_add hl rfl rfl (by simp only [Fits]; omega)) ?_) | refine wli nofun (fun _ _ h => h) (wl_val hl rfl trivial (r_addW hl rfl rfl) ?_)
                clear hl a; intro a hl
                refine wli nofun (fun _ _ h => h) (wl_val hl rfl trivial (r_assign hl rfl) ?_)
                clear hl a; intro a hl
                refine wi_nil ?_
                have hl2 := hl.add (t := 0) (hl.add (t := 1) (hl.add (t := 3) (hl.add (t := 4) (hl.add (t := 5) (hl.nil) rfl) rfl) rfl) rfl) rfl; clear hl; have hl := hl2; clear hl2
                refine then_normal ?_
                refine ⟨⟨i + 1, cu2, _⟩, (by simp only; omega), ⟨hct9, hI9 _ rfl⟩, hl.addE (t := 5) (hl.addE (t := 4) (hl.addE (t := 0) (hl.addE (t := 1) (hl.addE (t := 3) (hl.nil) rfl (by first | rfl | exact congrArg (Value.int .i64) (i_succ i))) rfl (by first | rfl | exact congrArg (Value.int .i64) (i_succ i))) rfl (by first | rfl | exact congrArg (Value.int .i64) (i_succ i))) rfl (by first | rfl | exact congrArg (Value.int .i64) (i_succ i))) rfl (by first | rfl | exact congrArg (Value.int .i64) (i_succ i)), hh.keep (by repeat (first | exact keeps_nil | apply keeps_cons (by repeat (first | exact find_head | apply find_tail)) (by first  | rfl) | exact keeps_self | exact keeps_left | exact keeps_right | exact keeps_swap | apply keeps_mv))⟩
              ·
                try simp only [List.cons_append, List.nil_append, List.append_nil] at hh
                replace hh := hh.comm
                refine wli nofun (fun _ _ h => h) (wl_val hl rfl ⟨_, _, rfl, rfl, rfl⟩ (r_not hl rfl) ?_)
                clear hl a; intro a hl
                refine wli nofun (fun _ _ h => h) (wl_val hl rfl trivial (r_pickT hl rfl rfl) ?_)
                clear hl a; intro a hl
                refine wi_nil ?_
                have hl2 := hl.add (t := 0) (hl.add (t := 1) (hl.add (t := 3) (hl.add (t := 4) (hl.add (t := 5) (hl.add (t := 7) (hl.add (t := 87) (hl.nil) rfl) rfl) rfl) rfl) rfl) rfl) rfl; clear hl; have hl := hl2; clear hl2
                first | have htd8 := htd9 | (obtain ⟨cu2, hcu2⟩ : ∃ z, z = cu1 := ⟨_, rfl⟩; have htd9 : cu2 ++ rest = holesP s bl := (by rw [hcu2]; exact hnil (by assumption)); have hct9 : Cont cu2 := (by rw [hcu2]; exact hct1); rw [← hcu2] at hh) | skip
                refine then_normal ?_
                refine i_condT hl rfl ?_
                refine i_ret ?_
                refine then_ret ?_
                refine blk_ret ?_
                refine then_ret ?_
                refine then_ret ?_
                refine blk_ret ?_
                refine f_ret0 (F' := Bx (cu1 ++ [_])) hl hh rfl (by repeat (first | exact keeps_nil | apply keeps_cons (by repeat (first | exact find_head | apply find_tail)) (by first  | rfl) | exact keeps_self | exact keeps_left | exact keeps_right | exact keeps_swap | apply keeps_mv)) ?_
                exact ⟨rfl, .inr ⟨cu1, _, pre_of (hcons (by assumption)), hst, rfl⟩⟩
            · intro hg10; clear hl; intro hl
              try simp only [decide_eq_true_eq, decide_eq_false_iff_not, Bool.not_eq_true', Bool.not_eq_false', Bool.not_eq_true, Bool.not_eq_false, Bool.and_eq_true, Bool.or_eq_true, Bool.and_eq_false_iff, Bool.or_eq_false_iff, Bool.not_not, ne_eq, Int.not_lt, Int.not_le, Decidable.not_not, beq_iff_eq, bne_iff_ne] at hg10
              refine wli nofun (fun _ _ h => h) (wl_skip hl rfl ⟨_, _, rfl, rfl, rfl⟩ ?_)
              clear hl a; intro a hl
              refine wli nofun (fun _ _ h => h) (wl_skip hl rfl ⟨_, _, rfl, rfl, rfl⟩ ?_)
              clear hl a; intro a hl
              refine wli nofun (fun _ _ h => h) (wl_skip hl rfl ⟨_, _, rfl, rfl, rfl⟩ ?_)
              clear hl a; intro a hl
              refine wli nofun (fun _ _ h => h) (wl_skip hl rfl ⟨_, _, rfl, rfl, rfl⟩ ?_)
              clear hl a; intro a hl
              refine wli nofun (fun _ _ h => h) (wl_skip hl rfl ⟨_, _, rfl, rfl, rfl⟩ ?_)
              clear hl a; intro a hl
              refine wli nofun (fun _ _ h => h) (wl_skip hl rfl ⟨_, _, rfl, rfl, rfl⟩ ?_)
              clear hl a; intro a hl
              refine wli nofun (fun _ _ h => h) (wl_skip hl rfl ⟨_, _, rfl, rfl, rfl⟩ ?_)
              clear hl a; intro a hl
              refine wli nofun (fun _ _ h => h) (wl_skip hl rfl ⟨_, _, rfl, rfl, rfl⟩ ?_)
              clear hl a; intro a hl
              refine wli nofun (fun _ _ h => h) (wl_skip hl rfl ⟨_, _, rfl, rfl, rfl⟩ ?_)
              clear hl a; intro a hl
              refine wli nofun (fun _ _ h => h) (wl_skip hl rfl ⟨_, _, rfl, rfl, rfl⟩ ?_)
              clear hl a; intro a hl
              refine wli nofun (fun _ _ h => h) (wl_skip hl rfl ⟨_, _, rfl, rfl, rfl⟩ ?_)
              clear hl a; intro a hl
              refine wli nofun (fun _ _ h => h) (wl_val hl rfl trivial (r_pickF hl rfl rfl) ?_)
              clear hl a; intro a hl
              refine wi_nil ?_
              have hl2 := hl.add (t := 0) (hl.add (t := 1) (hl.add (t := 3) (hl.add (t := 4) (hl.add (t := 5) (hl.add (t := 7) (hl.add (t := 87) (hl.nil) rfl) rfl) rfl) rfl) rfl) rfl) rfl; clear hl; have hl := hl2; clear hl2
              first | have htd8 := htd9 | (obtain ⟨cu2, hcu2⟩ : ∃ z, z = cu1 := ⟨_, rfl⟩; have htd9 : cu2 ++ rest = holesP s bl := (by rw [hcu2]; exact hnil (by assumption)); have hct9 : Cont cu2 := (by rw [hcu2]; exact hct1); rw [← hcu2] at hh) | skip
              refine then_normal ?_
              refine i_condF hl rfl ?_
              refine i_skip ?_
              refine then_normal ?_
              refine i_seq ?_
              refine i_region ?_
              refine wli nofun (fun _ _ h => h) (wl_val hl rfl trivial (r_move hl rfl) ?_)
              clear hl a; intro a hl
              refine wli nofun (fun _ _ h => h) (wl_val hl rfl trivial (r_not hl rfl) ?_)
              clear hl a; intro a hl
              refine wi_nil ?_
              have hl2 := hl.add (t := 0) (hl.add (t := 1) (hl.add (t := 3) (hl.add (t := 4) (hl.add (t := 5) (hl.add (t := 89) (hl.nil) rfl) rfl) rfl) rfl) rfl) rfl; clear hl; have hl := hl2; clear hl2
              refine then_normal ?_
              refine i_condF hl rfl ?_
              have hI9 : ∀ a : Int, a = a → ((i + 1 ≤ bl.length ∧ cu2 ++ holesF s bl (bl.drop (i + 1)) a = holesP s bl) ∨ (i + 1 = bl.length + 1 ∧ cu2 = holesP s bl)) := fun a _ => .inr ⟨by omega, by rw [← htd9, hrest, List.append_nil]⟩
              refine i_skip ?_
              refine blk_normal ?_
              refine then_normal ?_
              refine i_region ?_
              refine wli nofun (fun _ _ h => h) (wl_val hl rfl trivial (r_move hl rfl) ?_)
              clear hl a; intro a hl
              first | refine wli nofun (fun _ _ h => h) (wl_val hl rfl trivial (r_add hl rfl rfl (by simp only [Fits]; omega)) ?_) | refine wli nofun (fun _ _ h => h) (wl_val hl rfl trivial (r_addW hl rfl rfl) ?_)
              clear hl a; intro a hl
              refine wli nofun (fun _ _ h => h) (wl_val hl rfl trivial (r_assign hl rfl) ?_)
              clear hl a; intro a hl
              refine wi_nil ?_
              have hl2 := hl.add (t := 0) (hl.add (t := 1) (hl.add (t := 3) (hl.add (t := 4) (hl.add (t := 5) (hl.nil) rfl) rfl) rfl) rfl) rfl; clear hl; have hl := hl2; clear hl2
              refine then_normal ?_
              refine ⟨⟨i + 1, cu2, _⟩, (by simp only; omega), ⟨hct9, hI9 _ rfl⟩, hl.addE (t := 5) (hl.addE (t := 4) (hl.addE (t := 0) (hl.addE (t := 1) (hl.addE (t := 3) (hl.nil) rfl (by first | rfl | exact congrArg (Value.int .i64) (i_succ i))) rfl (by first | rfl | exact congrArg (Value.int .i64) (i_succ i))) rfl (by first | rfl | exact congrArg (Value.int .i64) (i_succ i))) rfl (by first | rfl | exact congrArg (Value.int .i64) (i_succ i))) rfl (by first | rfl | exact congrArg (Value.int .i64) (i_succ i)), hh.keep (by repeat (first | exact keeps_nil | apply keeps_cons (by repeat (first | exact find_head | apply find_tail)) (by first  | rfl) | exact keeps_self | exact keeps_left | exact keeps_right | exact keeps_swap | apply keeps_mv))⟩
        · intro hg8; clear hl; intro hl
          try simp only [decide_eq_true_eq, decide_eq_false_iff_not, Bool.not_eq_true', Bool.not_eq_false', Bool.not_eq_true, Bool.not_eq_false, Bool.and_eq_true, Bool.or_eq_true, Bool.and_eq_false_iff, Bool.or_eq_false_iff, Bool.not_not, ne_eq, Int.not_lt, Int.not_le, Decidable.not_not, beq_iff_eq, bne_iff_ne] at hg8
          refine wli nofun (fun _ _ h => h) (wl_skip hl rfl ⟨_, _, rfl, rfl, rfl⟩ ?_)
          clear hl a; intro a hl
          refine wli nofun (fun _ _ h => h) (wl_skip hl rfl ⟨_, _, rfl, rfl, rfl⟩ ?_)
          clear hl a; intro a hl
          refine wli nofun (fun _ _ h => h) (wl_skip hl rfl ⟨_, _, rfl, rfl, rfl⟩ ?_)
          clear hl a; intro a hl
          refine wli nofun (fun _ _ h => h) (wl_skip hl rfl ⟨_, _, rfl, rfl, rfl⟩ ?_)
          clear hl a; intro a hl
          refine wli nofun (fun _ _ h => h) (wl_skip hl rfl ⟨_, _, rfl, rfl, rfl⟩ ?_)
          clear hl a; intro a hl
          refine wli nofun (fun _ _ h => h) (wl_skip hl rfl ⟨_, _, rfl, rfl, rfl⟩ ?_)
          clear hl a; intro a hl
          refine wli nofun (fun _ _ h => h) (wl_val hl rfl trivial (r_pickF hl rfl rfl) ?_)
          clear hl a; intro a hl
          refine wi_nil ?_
          have hl2 := hl.add (t := 0) (hl.add (t := 1) (hl.add (t := 3) (hl.add (t := 4) (hl.add (t := 5) (hl.add (t := 6) (hl.add (t := 7) (hl.add (t := 57) (hl.nil) rfl) rfl) rfl) rfl) rfl) rfl) rfl) rfl; clear hl; have hl := hl2; clear hl2
          refine then_normal ?_
          refine i_condF hl rfl ?_
          have hnot : ¬ (s.phase = 2 ∧ lessP a_ s.recov = true ∧ lessP s.recov e_ = true) := by first | exact not3a (by assumption) | exact not3b (by assumption) | exact not3c (by assumption)
          obtain ⟨cu1, hcu1⟩ : ∃ z, z = cur := ⟨_, rfl⟩
          rw [← hcu1] at hh htd
          have hct1 : Cont cu1 := by rw [hcu1]; exact hct
          obtain ⟨hcons, hnil⟩ := seg_cons htd hnot
          refine i_skip ?_
          refine then_normal ?_
          refine i_seq ?_
          refine i_seq ?_
          refine i_region ?_
          refine wli nofun (fun _ _ h => h) (wl_val hl rfl trivial (r_move hl rfl) ?_)
          clear hl a; intro a hl
          refine wli nofun (fun _ _ h => h) (wl_val hl rfl trivial (r_move hl rfl) ?_)
          clear hl a; intro a hl
          refine wli nofun (fun _ _ h => h) (w_call hl hh rfl trivial rfl cal39 rfl (less_spec _ _) (by repeat (first | exact keeps_nil | apply keeps_cons (by repeat (first | exact find_head | apply find_tail)) (by first  | rfl) | exact keeps_self | exact keeps_left | exact keeps_right | exact keeps_swap | apply keeps_mv)) trivial ?_)
          clear hl hh a w; intro vc Fc a w hR hl hh
          obtain ⟨rfl, rfl⟩ := hR
          try simp only [List.cons_append, List.nil_append] at hh
          refine wli nofun (fun _ _ h => h) (wl_val hl rfl trivial (r_move hl rfl) ?_)
          clear hl a; intro a hl
          refine sl_split (t := 75) hl rfl ?_ ?_
          · intro hg11; clear hl; intro hl
            try simp only [decide_eq_true_eq, decide_eq_false_iff_not, Bool.not_eq_true', Bool.not_eq_false', Bool.not_eq_true, Bool.not_eq_false, Bool.and_eq_true, Bool.or_eq_true, Bool.and_eq_false_iff, Bool.or_eq_false_iff, Bool.not_not, ne_eq, Int.not_lt, Int.not_le, Decidable.not_not, beq_iff_eq, bne_iff_ne] at hg11
            refine wli nofun (fun _ _ h => h) (wl_val hl rfl ⟨_, _, rfl, rfl, rfl⟩ (r_move hl rfl) ?_)
            clear hl a; intro a hl
            refine wli nofun (fun _ _ h => h) (wl_val hl rfl ⟨_, _, rfl, rfl, rfl⟩ (r_move hl rfl) ?_)
            clear hl a; intro a hl
            refine wli nofun (fun _ _ h => h) (wl_val hl rfl ⟨_, _, rfl, rfl, rfl⟩ (r_move hl rfl) ?_)
            clear hl a; intro a hl
            first | refine wli nofun (fun _ _ h => h) (w_load hl hh rfl ⟨_, _, rfl, rfl, rfl⟩ one24 rfl (by repeat (first | exact find_head | apply find_tail)) (by first | rfl) ?_) | refine wli nofun (fun _ _ h => h) (w_loadR hl hh rfl ⟨_, _, rfl, rfl, rfl⟩ one24 rfl hkb hkD rfl ?_) | refine wli nofun (fun _ _ h => h) (w_loadR hl hh rfl ⟨_, _, rfl, rfl, rfl⟩ one24 rfl hmc hcD rfl ?_) | refine wli nofun (fun _ _ h => h) (wl_val hl rfl ⟨_, _, rfl, rfl, rfl⟩ (r_load hl rfl one24 (hh.mem _ _ (List.mem_append_left _ hmb)) (by simpa using fl_cell (j := 0) (v := .int .u32 q.1) pc_len hq rfl junk)) ?_) | refine wli nofun (fun _ _ h => h) (wl_val hl rfl ⟨_, _, rfl, rfl, rfl⟩ (r_load hl rfl one24 (hh.mem _ _ (List.mem_append_left _ hmb)) (by simpa using fl_cell (j := 1) (v := .int .u32 q.2) pc_len hq rfl junk)) ?_)
            clear hl a; intro a hl
            refine wli nofun (fun _ _ h => h) (wl_val hl rfl ⟨_, _, rfl, rfl, rfl⟩ (r_move hl rfl) ?_)
            clear hl a; intro a hl
            refine wli nofun (fun _ _ h => h) (wl_val hl rfl ⟨_, _, rfl, rfl, rfl⟩ (r_move hl rfl) ?_)
            clear hl a; intro a hl
            refine wli nofun (fun _ _ h => h) (w_call hl hh rfl ⟨_, _, rfl, rfl, rfl⟩ rfl cal69 rfl (isLost_spec cp s sp hs _ bl hbl _ cB HS0 hRb) (by repeat (first | exact keeps_nil | apply keeps_cons (by repeat (first | exact find_head | apply find_tail)) (by first  | rfl) | exact keeps_self | exact keeps_left | exact keeps_right | exact keeps_swap | apply keeps_mv)) ⟨hh.old hmc hcD, fun b o m => hh.mem b o (List.mem_append_left _ m)⟩ ?_)
            clear hl hh a w; intro vc Fc a w hR hl hh
            obtain ⟨rfl, rfl⟩ := hR
            try simp only [List.cons_append, List.nil_append] at hh
            refine wli nofun (fun _ _ h => h) (wl_val hl rfl ⟨_, _, rfl, rfl, rfl⟩ (r_move hl rfl) ?_)
            clear hl a; intro a hl
            refine wli nofun (fun _ _ h => h) (wl_val hl rfl ⟨_, _, rfl, rfl, rfl⟩ (r_build hl rfl zero93 bld93 (by simp only [fillL, setL, List.getElem?_cons_zero, List.getElem?_cons_succ, Value.cells, List.take_zero, List.take_succ_cons, List.take_nil, List.drop_zero, List.drop_succ_cons, List.drop_nil, List.length_cons, List.length_nil, List.cons_append, List.nil_append, List.append_nil, Nat.zero_add, Nat.add_zero, Nat.reduceAdd, Nat.reduceBEq, Nat.reduceEqDiff, Nat.ble, BEq.rfl, Bool.and_true, Bool.and_self, cond_true, beq_self_eq_true]; rfl)) ?_)
            clear hl a; intro a hl
            refine wli_yield hl hh rfl ⟨_, _, rfl, rfl, rfl⟩ rfl rfl (hy cu1 _ (pre_of (hcons (by assumption))) hct1) keeps_right (mem_keepD hh hmZ hdis) ?_
            clear hl hh a w; intro vc Fc a w hR hl hh
            rcases hR with ⟨rfl, hc2x, hF⟩ | ⟨rfl, hst, rfl⟩
            ·
              try simp only [List.cons_append, List.nil_append, List.append_nil] at hh
              obtain ⟨cu2, hF2, hct9, htd9⟩ := next_ex (hcons (by assumption)) hc2x hF
              subst hF2
              replace hh := hh.comm
              refine wli nofun (fun _ _ h => h) (wl_val hl rfl ⟨_, _, rfl, rfl, rfl⟩ (r_not hl rfl) ?_)
              clear hl a; intro a hl
              refine wli nofun (fun _ _ h => h) (wl_val hl rfl trivial (r_pickT hl rfl rfl) ?_)
              clear hl a; intro a hl
              refine wi_nil ?_
              have hl2 := hl.add (t := 0) (hl.add (t := 1) (hl.add (t := 3) (hl.add (t := 4) (hl.add (t := 5) (hl.add (t := 7) (hl.add (t := 87) (hl.nil) rfl) rfl) rfl) rfl) rfl) rfl) rfl; clear hl; have hl := hl2; clear hl2
              first | have htd8 := htd9 | (obtain ⟨cu2, hcu2⟩ : ∃ z, z = cu1 := ⟨_, rfl⟩; have htd9 : cu2 ++ rest = holesP s bl := (by rw [hcu2]; exact hnil (by assumption)); have hct9 : Cont cu2 := (by rw [hcu2]; exact hct1); rw [← hcu2] at hh) | skip
              refine then_normal ?_
              refine i_condF hl rfl ?_
              refine i_skip ?_
              refine then_normal ?_
              refine i_seq ?_
              refine i_region ?_
              refine wli nofun (fun _ _ h => h) (wl_val hl rfl trivial (r_move hl rfl) ?_)
              clear hl a; intro a hl
              refine wli nofun (fun _ _ h => h) (wl_val hl rfl trivial (r_not hl rfl) ?_)
              clear hl a; intro a hl
              refine wi_nil ?_
              have hl2 := hl.add (t := 0) (hl.add (t := 1) (hl.add (t := 3) (hl.add (t := 4) (hl.add (t := 5) (hl.add (t := 89) (hl.nil) rfl) rfl) rfl) rfl) rfl) rfl; clear hl; have hl := hl2; clear hl2
              refine then_normal ?_
              refine i_condF hl rfl ?_
              have hI9 : ∀ a : Int, a = a → ((i + 1 ≤ bl.length ∧ cu2 ++ holesF s bl (bl.drop (i + 1)) a = holesP s bl) ∨ (i + 1 = bl.length + 1 ∧ cu2 = holesP s bl)) := fun a _ => .inr ⟨by omega, by rw [← htd9, hrest, List.append_nil]⟩
              refine i_skip ?_
              refine blk_normal ?_
              refine then_normal ?_
              refine i_region ?_
              refine wli nofun (fun _ _ h => h) (wl_val hl rfl trivial (r_move hl rfl) ?_)
              clear hl a; intro a hl
              first | refine wli nofun (fun _ _ h => h) (wl_val hl rfl trivial (r_add hl rfl rfl (by simp only [Fits]; omega)) ?_) | refine wli nofun (fun _ _ h => h) (wl_val hl rfl trivial (r_addW hl rfl rfl) ?_)
              clear hl a; intro a hl
              refine wli nofun (fun _ _ h => h) (wl_val hl rfl trivial (r_assign hl rfl) ?_)
              clear hl a; intro a hl
              refine wi_nil ?_
              have hl2 := hl.add (t := 0) (hl.add (t := 1) (hl.add (t := 3) (hl.add (t := 4) (hl.add (t := 5) (hl.nil) rfl) rfl) rfl) rfl) rfl; clear hl; have hl := hl2; clear hl2
              refine then_normal ?_
              refine ⟨⟨i + 1, cu2, _⟩, (by simp only; omega), ⟨hct9, hI9 _ rfl⟩, hl.addE (t := 5) (hl.addE (t := 4) (hl.addE (t := 0) (hl.addE (t := 1) (hl.addE (t := 3) (hl.nil) rfl (by first | rfl | exact congrArg (Value.int .i64) (i_succ i))) rfl (by first | rfl | exact congrArg (Value.int .i64) (i_succ i))) rfl (by first | rfl | exact congrArg (Value.int .i64) (i_succ i))) rfl (by first | rfl | exact congrArg (Value.int .i64) (i_succ i))) rfl (by first | rfl | exact congrArg (Value.int .i64) (i_succ i)), hh.keep (by repeat (first | exact keeps_nil | apply keeps_cons (by repeat (first | exact find_head | apply find_tail)) (by first  | rfl) | exact keeps_self | exact keeps_left | exact keeps_right | exact keeps_swap | apply keeps_mv))⟩
            ·
              try simp only [List.cons_append, List.nil_append, List.append_nil] at hh
              replace hh := hh.comm
              refine wli nofun (fun _ _ h => h) (wl_val hl rfl ⟨_, _, rfl, rfl, rfl⟩ (r_not hl rfl) ?_)
              clear hl a; intro a hl
              refine wli nofun (fun _ _ h => h) (wl_val hl rfl trivial (r_pickT hl rfl rfl) ?_)
              clear hl a; intro a hl
              refine wi_nil ?_
              have hl2 := hl.add (t := 0) (hl.add (t := 1) (hl.add (t := 3) (hl.add (t := 4) (hl.add (t := 5) (hl.add (t := 7) (hl.add (t := 87) (hl.nil) rfl) rfl) rfl) rfl) rfl) rfl) rfl; clear hl; have hl := hl2; clear hl2
              first | have htd8 := htd9 | (obtain ⟨cu2, hcu2⟩ : ∃ z, z = cu1 := ⟨_, rfl⟩; have htd9 : cu2 ++ rest = holesP s bl := (by rw [hcu2]; exact hnil (by assumption)); have hct9 : Cont cu2 := (by rw [hcu2]; exact hct1); rw [← hcu2] at hh) | skip
              refine then_normal ?_
              refine i_condT hl rfl ?_
              refine i_ret ?_
              refine then_ret ?_
              refine blk_ret ?_
              refine then_ret ?_
              refine then_ret ?_
              refine blk_ret ?_
              refine f_ret0 (F' := Bx (cu1 ++ [_])) hl hh rfl (by repeat (first | exact keeps_nil | apply keeps_cons (by repeat (first | exact find_head | apply find_tail)) (by first  | rfl) | exact keeps_self | exact keeps_left | exact keeps_right | exact keeps_swap | apply keeps_mv)) ?_
              exact ⟨rfl, .inr ⟨cu1, _, pre_of (hcons (by assumption)), hst, rfl⟩⟩
          · intro hg11; clear hl; intro hl
            try simp only [decide_eq_true_eq, decide_eq_false_iff_not, Bool.not_eq_true', Bool.not_eq_false', Bool.not_eq_true, Bool.not_eq_false, Bool.and_eq_true, Bool.or_eq_true, Bool.and_eq_false_iff, Bool.or_eq_false_iff, Bool.not_not, ne_eq, Int.not_lt, Int.not_le, Decidable.not_not, beq_iff_eq, bne_iff_ne] at hg11
            refine wli nofun (fun _ _ h => h) (wl_skip hl rfl ⟨_, _, rfl, rfl, rfl⟩ ?_)
            clear hl a; intro a hl
            refine wli nofun (fun _ _ h => h) (wl_skip hl rfl ⟨_, _, rfl, rfl, rfl⟩ ?_)
            clear hl a; intro a hl
            refine wli nofun (fun _ _ h => h) (wl_skip hl rfl ⟨_, _, rfl, rfl, rfl⟩ ?_)
            clear hl a; intro a hl
            refine wli nofun (fun _ _ h => h) (wl_skip hl rfl ⟨_, _, rfl, rfl, rfl⟩ ?_)
            clear hl a; intro a hl
            refine wli nofun (fun _ _ h => h) (wl_skip hl rfl ⟨_, _, rfl, rfl, rfl⟩ ?_)
            clear hl a; intro a hl
            refine wli nofun (fun _ _ h => h) (wl_skip hl rfl ⟨_, _, rfl, rfl, rfl⟩ ?_)
            clear hl a; intro a hl
            refine wli nofun (fun _ _ h => h) (wl_skip hl rfl ⟨_, _, rfl, rfl, rfl⟩ ?_)
            clear hl a; intro a hl
            refine wli nofun (fun _ _ h => h) (wl_skip hl rfl ⟨_, _, rfl, rfl, rfl⟩ ?_)
            clear hl a; intro a hl
            refine wli nofun (fun _ _ h => h) (wl_skip hl rfl ⟨_, _, rfl, rfl, rfl⟩ ?_)
            clear hl a; intro a hl
            refine wli nofun (fun _ _ h => h) (wl_skip hl rfl ⟨_, _, rfl, rfl, rfl⟩ ?_)
            clear hl a; intro a hl
            refine wli nofun (fun _ _ h => h) (wl_skip hl rfl ⟨_, _, rfl, rfl, rfl⟩ ?_)
            clear hl a; intro a hl
            refine wli nofun (fun _ _ h => h) (wl_val hl rfl trivial (r_pickF hl rfl rfl) ?_)
            clear hl a; intro a hl
            refine wi_nil ?_
            have hl2 := hl.add (t := 0) (hl.add (t := 1) (hl.add (t := 3) (hl.add (t := 4) (hl.add (t := 5) (hl.add (t := 7) (hl.add (t := 87) (hl.nil) rfl) rfl) rfl) rfl) rfl) rfl) rfl; clear hl; have hl := hl2; clear hl2
            first | have htd8 := htd9 | (obtain ⟨cu2, hcu2⟩ : ∃ z, z = cu1 := ⟨_, rfl⟩; have htd9 : cu2 ++ rest = holesP s bl := (by rw [hcu2]; exact hnil (by assumption)); have hct9 : Cont cu2 := (by rw [hcu2]; exact hct1); rw [← hcu2] at hh) | skip
            refine then_normal ?_
            refine i_condF hl rfl ?_
            refine i_skip ?_
            refine then_normal ?_
            refine i_seq ?_
            refine i_region ?_
            refine wli nofun (fun _ _ h => h) (wl_val hl rfl trivial (r_move hl rfl) ?_)
            clear hl a; intro a hl
            refine wli nofun (fun _ _ h => h) (wl_val hl rfl trivial (r_not hl rfl) ?_)
            clear hl a; intro a hl
            refine wi_nil ?_
            have hl2 := hl.add (t := 0) (hl.add (t := 1) (hl.add (t := 3) (hl.add (t := 4) (hl.add (t := 5) (hl.add (t := 89) (hl.nil) rfl) rfl) rfl) rfl) rfl) rfl; clear hl; have hl := hl2; clear hl2
            refine then_normal ?_
            refine i_condF hl rfl ?_
            have hI9 : ∀ a : Int, a = a → ((i + 1 ≤ bl.length ∧ cu2 ++ holesF s bl (bl.drop (i + 1)) a = holesP s bl) ∨ (i + 1 = bl.length + 1 ∧ cu2 = holesP s bl)) := fun a _ => .inr ⟨by omega, by rw [← htd9, hrest, List.append_nil]⟩
            refine i_skip ?_
            refine blk_normal ?_
            refine then_normal ?_
            refine i_region ?_
            refine wli nofun (fun _ _ h => h) (wl_val hl rfl trivial (r_move hl rfl) ?_)
            clear hl a; intro a hl
            first | refine wli nofun (fun _ _ h => h) (wl_val hl rfl trivial (r_add hl rfl rfl (by simp only [Fits]; omega)) ?_) | refine wli nofun (fun _ _ h => h) (wl_val hl rfl trivial (r_addW hl rfl rfl) ?_)
            clear hl a; intro a hl
            refine wli nofun (fun _ _ h => h) (wl_val hl rfl trivial (r_assign hl rfl) ?_)
            clear hl a; intro a hl
            refine wi_nil ?_
            have hl2 := hl.add (t := 0) (hl.add (t := 1) (hl.add (t := 3) (hl.add (t := 4) (hl.add (t := 5) (hl.nil) rfl) rfl) rfl) rfl) rfl; clear hl; have hl := hl2; clear hl2
            refine then_normal ?_
            refine ⟨⟨i + 1, cu2, _⟩, (by simp only; omega), ⟨hct9, hI9 _ rfl⟩, hl.addE (t := 5) (hl.addE (t := 4) (hl.addE (t := 0) (hl.addE (t := 1) (hl.addE (t := 3) (hl.nil) rfl (by first | rfl | exact congrArg (Value.int .i64) (i_succ i))) rfl (by first | rfl | exact congrArg (Value.int .i64) (i_succ i))) rfl (by first | rfl | exact congrArg (Value.int .i64) (i_succ i))) rfl (by first | rfl | exact congrArg (Value.int .i64) (i_succ i))) rfl (by first | rfl | exact congrArg (Value.int .i64) (i_succ i)), hh.keep (by repeat (first | exact keeps_nil | apply keeps_cons (by repeat (first | exact find_head | apply find_tail)) (by first  | rfl) | exact keeps_self | exact keeps_left | exact keeps_right | exact keeps_swap | apply keeps_mv))⟩
      · intro hg7; clear hl; intro hl
        try simp only [decide_eq_true_eq, decide_eq_false_iff_not, Bool.not_eq_true', Bool.not_eq_false', Bool.not_eq_true, Bool.not_eq_false, Bool.and_eq_true, Bool.or_eq_true, Bool.and_eq_false_iff, Bool.or_eq_false_iff, Bool.not_not, ne_eq, Int.not_lt, Int.not_le, Decidable.not_not, beq_iff_eq, bne_iff_ne] at hg7
        refine wli nofun (fun _ _ h => h) (wl_skip hl rfl ⟨_, _, rfl, rfl, rfl⟩ ?_)
        clear hl a; intro a hl
        refine wli nofun (fun _ _ h => h) (wl_skip hl rfl ⟨_, _, rfl, rfl, rfl⟩ ?_)
        clear hl a; intro a hl
        refine wli nofun (fun _ _ h => h) (wl_skip hl rfl ⟨_, _, rfl, rfl, rfl⟩ ?_)
        clear hl a; intro a hl
        refine wli nofun (fun _ _ h => h) (wl_skip hl rfl ⟨_, _, rfl, rfl, rfl⟩ ?_)
        clear hl a; intro a hl
        refine wli nofun (fun _ _ h => h) (wl_skip hl rfl ⟨_, _, rfl, rfl, rfl⟩ ?_)
        clear hl a; intro a hl
        refine wli nofun (fun _ _ h => h) (wl_skip hl rfl ⟨_, _, rfl, rfl, rfl⟩ ?_)
        clear hl a; intro a hl
        refine wli nofun (fun _ _ h => h) (wl_val hl rfl trivial (r_pickF hl rfl rfl) ?_)
        clear hl a; intro a hl
        refine wli nofun (fun _ _ h => h) (wl_val hl rfl trivial (r_move hl rfl) ?_)
        clear hl a; intro a hl
        refine wli nofun (fun _ _ h => h) (wl_skip hl rfl ⟨_, _, rfl, rfl, rfl⟩ ?_)
        clear hl a; intro a hl
        refine wli nofun (fun _ _ h => h) (wl_skip hl rfl ⟨_, _, rfl, rfl, rfl⟩ ?_)
        clear hl a; intro a hl
        refine wli nofun (fun _ _ h => h) (wl_skip hl rfl ⟨_, _, rfl, rfl, rfl⟩ ?_)
        clear hl a; intro a hl
        refine wli nofun (fun _ _ h => h) (wl_skip hl rfl ⟨_, _, rfl, rfl, rfl⟩ ?_)
        clear hl a; intro a hl
        refine wli nofun (fun _ _ h => h) (wl_skip hl rfl ⟨_, _, rfl, rfl, rfl⟩ ?_)
        clear hl a; intro a hl
        refine wli nofun (fun _ _ h => h) (wl_skip hl rfl ⟨_, _, rfl, rfl, rfl⟩ ?_)
        clear hl a; intro a hl
        refine wli nofun (fun _ _ h => h) (wl_val hl rfl trivial (r_pickF hl rfl rfl) ?_)
        clear hl a; intro a hl
        refine wi_nil ?_
        have hl2 := hl.add (t := 0) (hl.add (t := 1) (hl.add (t := 3) (hl.add (t := 4) (hl.add (t := 5) (hl.add (t := 6) (hl.add (t := 7) (hl.add (t := 57) (hl.nil) rfl) rfl) rfl) rfl) rfl) rfl) rfl) rfl; clear hl; have hl := hl2; clear hl2
        refine then_normal ?_
        refine i_condF hl rfl ?_
        have hnot : ¬ (s.phase = 2 ∧ lessP a_ s.recov = true ∧ lessP s.recov e_ = true) := by first | exact not3a (by assumption) | exact not3b (by assumption) | exact not3c (by assumption)
        obtain ⟨cu1, hcu1⟩ : ∃ z, z = cur := ⟨_, rfl⟩
        rw [← hcu1] at hh htd
        have hct1 : Cont cu1 := by rw [hcu1]; exact hct
        obtain ⟨hcons, hnil⟩ := seg_cons htd hnot
        refine i_skip ?_
        refine then_normal ?_
        refine i_seq ?_
        refine i_seq ?_
        refine i_region ?_
        refine wli nofun (fun _ _ h => h) (wl_val hl rfl trivial (r_move hl rfl) ?_)
        clear hl a; intro a hl
        refine wli nofun (fun _ _ h => h) (wl_val hl rfl trivial (r_move hl rfl) ?_)
        clear hl a; intro a hl
        refine wli nofun (fun _ _ h => h) (w_call hl hh rfl trivial rfl cal39 rfl (less_spec _ _) (by repeat (first | exact keeps_nil | apply keeps_cons (by repeat (first | exact find_head | apply find_tail)) (by first  | rfl) | exact keeps_self | exact keeps_left | exact keeps_right | exact keeps_swap | apply keeps_mv)) trivial ?_)
        clear hl hh a w; intro vc Fc a w hR hl hh
        obtain ⟨rfl, rfl⟩ := hR
        try simp only [List.cons_append, List.nil_append] at hh
        refine wli nofun (fun _ _ h => h) (wl_val hl rfl trivial (r_move hl rfl) ?_)
        clear hl a; intro a hl
        refine sl_split (t := 75) hl rfl ?_ ?_
        · intro hg12; clear hl; intro hl
          try simp only [decide_eq_true_eq, decide_eq_false_iff_not, Bool.not_eq_true', Bool.not_eq_false', Bool.not_eq_true, Bool.not_eq_false, Bool.and_eq_true, Bool.or_eq_true, Bool.and_eq_false_iff, Bool.or_eq_false_iff, Bool.not_not, ne_eq, Int.not_lt, Int.not_le, Decidable.not_not, beq_iff_eq, bne_iff_ne] at hg12
          refine wli nofun (fun _ _ h => h) (wl_val hl rfl ⟨_, _, rfl, rfl, rfl⟩ (r_move hl rfl) ?_)
          clear hl a; intro a hl
          refine wli nofun (fun _ _ h => h) (wl_val hl rfl ⟨_, _, rfl, rfl, rfl⟩ (r_move hl rfl) ?_)
          clear hl a; intro a hl
          refine wli nofun (fun _ _ h => h) (wl_val hl rfl ⟨_, _, rfl, rfl, rfl⟩ (r_move hl rfl) ?_)
          clear hl a; intro a hl
          first | refine wli nofun (fun _ _ h => h) (w_load hl hh rfl ⟨_, _, rfl, rfl, rfl⟩ one24 rfl (by repeat (first | exact find_head | apply find_tail)) (by first | rfl) ?_) | refine wli nofun (fun _ _ h => h) (w_loadR hl hh rfl ⟨_, _, rfl, rfl, rfl⟩ one24 rfl hkb hkD rfl ?_) | refine wli nofun (fun _ _ h => h) (w_loadR hl hh rfl ⟨_, _, rfl, rfl, rfl⟩ one24 rfl hmc hcD rfl ?_) | refine wli nofun (fun _ _ h => h) (wl_val hl rfl ⟨_, _, rfl, rfl, rfl⟩ (r_load hl rfl one24 (hh.mem _ _ (List.mem_append_left _ hmb)) (by simpa using fl_cell (j := 0) (v := .int .u32 q.1) pc_len hq rfl junk)) ?_) | refine wli nofun (fun _ _ h => h) (wl_val hl rfl ⟨_, _, rfl, rfl, rfl⟩ (r_load hl rfl one24 (hh.mem _ _ (List.mem_append_left _ hmb)) (by simpa using fl_cell (j := 1) (v := .int .u32 q.2) pc_len hq rfl junk)) ?_)
          clear hl a; intro a hl
          refine wli nofun (fun _ _ h => h) (wl_val hl rfl ⟨_, _, rfl, rfl, rfl⟩ (r_move hl rfl) ?_)
          clear hl a; intro a hl
          refine wli nofun (fun _ _ h => h) (wl_val hl rfl ⟨_, _, rfl, rfl, rfl⟩ (r_move hl rfl) ?_)
          clear hl a; intro a hl
          refine wli nofun (fun _ _ h => h) (w_call hl hh rfl ⟨_, _, rfl, rfl, rfl⟩ rfl cal69 rfl (isLost_spec cp s sp hs _ bl hbl _ cB HS0 hRb) (by repeat (first | exact keeps_nil | apply keeps_cons (by repeat (first | exact find_head | apply find_tail)) (by first  | rfl) | exact keeps_self | exact keeps_left | exact keeps_right | exact keeps_swap | apply keeps_mv)) ⟨hh.old hmc hcD, fun b o m => hh.mem b o (List.mem_append_left _ m)⟩ ?_)
          clear hl hh a w; intro vc Fc a w hR hl hh
          obtain ⟨rfl, rfl⟩ := hR
          try simp only [List.cons_append, List.nil_append] at hh
          refine wli nofun (fun _ _ h => h) (wl_val hl rfl ⟨_, _, rfl, rfl, rfl⟩ (r_move hl rfl) ?_)
          clear hl a; intro a hl
          refine wli nofun (fun _ _ h => h) (wl_val hl rfl ⟨_, _, rfl, rfl, rfl⟩ (r_build hl rfl zero93 bld93 (by simp only [fillL, setL, List.getElem?_cons_zero, List.getElem?_cons_succ, Value.cells, List.take_zero, List.take_succ_cons, List.take_nil, List.drop_zero, List.drop_succ_cons, List.drop_nil, List.length_cons, List.length_nil, List.cons_append, List.nil_append, List.append_nil, Nat.zero_add, Nat.add_zero, Nat.reduceAdd, Nat.reduceBEq, Nat.reduceEqDiff, Nat.ble, BEq.rfl, Bool.and_true, Bool.and_self, cond_true, beq_self_eq_true]; rfl)) ?_)
          clear hl a; intro a hl
          refine wli_yield hl hh rfl ⟨_, _, rfl, rfl, rfl⟩ rfl rfl (hy cu1 _ (pre_of (hcons (by assumption))) hct1) keeps_right (mem_keepD hh hmZ hdis) ?_
          clear hl hh a w; intro vc Fc a w hR hl hh
          rcases hR with ⟨rfl, hc2x, hF⟩ | ⟨rfl, hst, rfl⟩
          ·
            try simp only [List.cons_append, List.nil_append, List.append_nil] at hh
            obtain ⟨cu2, hF2, hct9, htd9⟩ := next_ex (hcons (by assumption)) hc2x hF
            subst hF2
            replace hh := hh.comm
            refine wli nofun (fun _ _ h => h) (wl_val hl rfl ⟨_, _, rfl, rfl, rfl⟩ (r_not hl rfl) ?_)
            clear hl a; intro a hl
            refine wli nofun (fun _ _ h => h) (wl_val hl rfl trivial (r_pickT hl rfl rfl) ?_)
            clear hl a; intro a hl
            refine wi_nil ?_
            have hl2 := hl.add (t := 0) (hl.add (t := 1) (hl.add (t := 3) (hl.add (t := 4) (hl.add (t := 5) (hl.add (t := 7) (hl.add (t := 87) (hl.nil) rfl) rfl) rfl) rfl) rfl) rfl) rfl; clear hl; have hl := hl2; clear hl2
            first | have htd8 := htd9 | (obtain ⟨cu2, hcu2⟩ : ∃ z, z = cu1 := ⟨_, rfl⟩; have htd9 : cu2 ++ rest = holesP s bl := (by rw [hcu2]; exact hnil (by assumption)); have hct9 : Cont cu2 := (by rw [hcu2]; exact hct1); rw [← hcu2] at hh) | skip
            refine then_normal ?_
            refine i_condF hl rfl ?_
            refine i_skip ?_
            refine then_normal ?_
            refine i_seq ?_
            refine i_region ?_
            refine wli nofun (fun _ _ h => h) (wl_val hl rfl trivial (r_move hl rfl) ?_)
            clear hl a; intro a hl
            refine wli nofun (fun _ _ h => h) (wl_val hl rfl trivial (r_not hl rfl) ?_)
            clear hl a; intro a hl
            refine wi_nil ?_
            have hl2 := hl.add (t := 0) (hl.add (t := 1) (hl.add (t := 3) (hl.add (t := 4) (hl.add (t := 5) (hl.add (t := 89) (hl.nil) rfl) rfl) rfl) rfl) rfl) rfl; clear hl; have hl := hl2; clear hl2
            refine then_normal ?_
            refine i_condF hl rfl ?_
            have hI9 : ∀ a : Int, a = a → ((i + 1 ≤ bl.length ∧ cu2 ++ holesF s bl (bl.drop (i + 1)) a = holesP s bl) ∨ (i + 1 = bl.length + 1 ∧ cu2 = holesP s bl)) := fun a _ => .inr ⟨by omega, by rw [← htd9, hrest, List.append_nil]⟩
            refine i_skip ?_
            refine blk_normal ?_
            refine then_normal ?_
            refine i_region ?_
            refine wli nofun (fun _ _ h => h) (wl_val hl rfl trivial (r_move hl rfl) ?_)
            clear hl a; intro a hl
            first | refine wli nofun (fun _ _ h => h) (wl_val hl rfl trivial (r_add hl rfl rfl (by simp only [Fits]; omega)) ?_) | refine wli nofun (fun _ _ h => h) (wl_val hl rfl trivial (r_addW hl rfl rfl) ?_)
            clear hl a; intro a hl
            refine wli nofun (fun _ _ h => h) (wl_val hl rfl trivial (r_assign hl rfl) ?_)
            clear hl a; intro a hl
            refine wi_nil ?_
            have hl2 := hl.add (t := 0) (hl.add (t := 1) (hl.add (t := 3) (hl.add (t := 4) (hl.add (t := 5) (hl.nil) rfl) rfl) rfl) rfl) rfl; clear hl; have hl := hl2; clear hl2
            refine then_normal ?_
            refine ⟨⟨i + 1, cu2, _⟩, (by simp only; omega), ⟨hct9, hI9 _ rfl⟩, hl.addE (t := 5) (hl.addE (t := 4) (hl.addE (t := 0) (hl.addE (t := 1) (hl.addE (t := 3) (hl.nil) rfl (by first | rfl | exact congrArg (Value.int .i64) (i_succ i))) rfl (by first | rfl | exact congrArg (Value.int .i64) (i_succ i))) rfl (by first | rfl | exact congrArg (Value.int .i64) (i_succ i))) rfl (by first | rfl | exact congrArg (Value.int .i64) (i_succ i))) rfl (by first | rfl | exact congrArg (Value.int .i64) (i_succ i)), hh.keep (by repeat (first | exact keeps_nil | apply keeps_cons (by repeat (first | exact find_head | apply find_tail)) (by first  | rfl) | exact keeps_self | exact keeps_left | exact keeps_right | exact keeps_swap | apply keeps_mv))⟩
          ·
            try simp only [List.cons_append, List.nil_append, List.append_nil] at hh
            replace hh := hh.comm
            refine wli nofun (fun _ _ h => h) (wl_val hl rfl ⟨_, _, rfl, rfl, rfl⟩ (r_not hl rfl) ?_)
            clear hl a; intro a hl
            refine wli nofun (fun _ _ h => h) (wl_val hl rfl trivial (r_pickT hl rfl rfl) ?_)
            clear hl a; intro a hl
            refine wi_nil ?_
            have hl2 := hl.add (t := 0) (hl.add (t := 1) (hl.add (t := 3) (hl.add (t := 4) (hl.add (t := 5) (hl.add (t := 7) (hl.add (t := 87) (hl.nil) rfl) rfl) rfl) rfl) rfl) rfl) rfl; clear hl; have hl := hl2; clear hl2
            first | have htd8 := htd9 | (obtain ⟨cu2, hcu2⟩ : ∃ z, z = cu1 := ⟨_, rfl⟩; have htd9 : cu2 ++ rest = holesP s bl := (by rw [hcu2]; exact hnil (by assumption)); have hct9 : Cont cu2 := (by rw [hcu2]; exact hct1); rw [← hcu2] at hh) | skip
            refine then_normal ?_
            refine i_condT hl rfl ?_
            refine i_ret ?_
            refine then_ret ?_
            refine blk_ret ?_
            refine then_ret ?_
            refine then_ret ?_
            refine blk_ret ?_
            refine f_ret0 (F' := Bx (cu1 ++ [_])) hl hh rfl (by repeat (first | exact keeps_nil | apply keeps_cons (by repeat (first | exact find_head | apply find_tail)) (by first  | rfl) | exact keeps_self | exact keeps_left | exact keeps_right | exact keeps_swap | apply keeps_mv)) ?_
            exact ⟨rfl, .inr ⟨cu1, _, pre_of (hcons (by assumption)), hst, rfl⟩⟩
        · intro hg12; clear hl; intro hl
          try simp only [decide_eq_true_eq, decide_eq_false_iff_not, Bool.not_eq_true', Bool.not_eq_false', Bool.not_eq_true, Bool.not_eq_false, Bool.and_eq_true, Bool.or_eq_true, Bool.and_eq_false_iff, Bool.or_eq_false_iff, Bool.not_not, ne_eq, Int.not_lt, Int.not_le, Decidable.not_not, beq_iff_eq, bne_iff_ne] at hg12
          refine wli nofun (fun _ _ h => h) (wl_skip hl rfl ⟨_, _, rfl, rfl, rfl⟩ ?_)
          clear hl a; intro a hl
          refine wli nofun (fun _ _ h => h) (wl_skip hl rfl ⟨_, _, rfl, rfl, rfl⟩ ?_)
          clear hl a; intro a hl
          refine wli nofun (fun _ _ h => h) (wl_skip hl rfl ⟨_, _, rfl, rfl, rfl⟩ ?_)
          clear hl a; intro a hl
          refine wli nofun (fun _ _ h => h) (wl_skip hl rfl ⟨_, _, rfl, rfl, rfl⟩ ?_)
          clear hl a; intro a hl
          refine wli nofun (fun _ _ h => h) (wl_skip hl rfl ⟨_, _, rfl, rfl, rfl⟩ ?_)
          clear hl a; intro a hl
          refine wli nofun (fun _ _ h => h) (wl_skip hl rfl ⟨_, _, rfl, rfl, rfl⟩ ?_)
          clear hl a; intro a hl
          refine wli nofun (fun _ _ h => h) (wl_skip hl rfl ⟨_, _, rfl, rfl, rfl⟩ ?_)
          clear hl a; intro a hl
          refine wli nofun (fun _ _ h => h) (wl_skip hl rfl ⟨_, _, rfl, rfl, rfl⟩ ?_)
          clear hl a; intro a hl
          refine wli nofun (fun _ _ h => h) (wl_skip hl rfl ⟨_, _, rfl, rfl, rfl⟩ ?_)
          clear hl a; intro a hl
          refine wli nofun (fun _ _ h => h) (wl_skip hl rfl ⟨_, _, rfl, rfl, rfl⟩ ?_)
          clear hl a; intro a hl
          refine wli nofun (fun _ _ h => h) (wl_skip hl rfl ⟨_, _, rfl, rfl, rfl⟩ ?_)
          clear hl a; intro a hl
          refine wli nofun (fun _ _ h => h) (wl_val hl rfl trivial (r_pickF hl rfl rfl) ?_)
          clear hl a; intro a hl
          refine wi_nil ?_
          have hl2 := hl.add (t := 0) (hl.add (t := 1) (hl.add (t := 3) (hl.add (t := 4) (hl.add (t := 5) (hl.add (t := 7) (hl.add (t := 87) (hl.nil) rfl) rfl) rfl) rfl) rfl) rfl) rfl; clear hl; have hl := hl2; clear hl2
          first | have htd8 := htd9 | (obtain ⟨cu2, hcu2⟩ : ∃ z, z = cu1 := ⟨_, rfl⟩; have htd9 : cu2 ++ rest = holesP s bl := (by rw [hcu2]; exact hnil (by assumption)); have hct9 : Cont cu2 := (by rw [hcu2]; exact hct1); rw [← hcu2] at hh) | skip
          refine then_normal ?_
          refine i_condF hl rfl ?_
          refine i_skip ?_
          refine then_normal ?_
          refine i_seq ?_
          refine i_region ?_
          refine wli nofun (fun _ _ h => h) (wl_val hl rfl trivial (r_move hl rfl) ?_)
          clear hl a; intro a hl
          refine wli nofun (fun _ _ h => h) (wl_val hl rfl trivial (r_not hl rfl) ?_)
          clear hl a; intro a hl
          refine wi_nil ?_
          have hl2 := hl.add (t := 0) (hl.add (t := 1) (hl.add (t := 3) (hl.add (t := 4) (hl.add (t := 5) (hl.add (t := 89) (hl.nil) rfl) rfl) rfl) rfl) rfl) rfl; clear hl; have hl := hl2; clear hl2
          refine then_normal ?_
          refine i_condF hl rfl ?_
          have hI9 : ∀ a : Int, a = a → ((i + 1 ≤ bl.length ∧ cu2 ++ holesF s bl (bl.drop (i + 1)) a = holesP s bl) ∨ (i + 1 = bl.length + 1 ∧ cu2 = holesP s bl)) := fun a _ => .inr ⟨by omega, by rw [← htd9, hrest, List.append_nil]⟩
          refine i_skip ?_
          refine blk_normal ?_
          refine then_normal ?_
          refine i_region ?_
          refine wli nofun (fun _ _ h => h) (wl_val hl rfl trivial (r_move hl rfl) ?_)
          clear hl a; intro a hl
          first | refine wli nofun (fun _ _ h => h) (wl_val hl rfl trivial (r_add hl rfl rfl (by simp only [Fits]; omega)) ?_) | refine wli nofun (fun _ _ h => h) (wl_val hl rfl trivial (r_addW hl rfl rfl) ?_)
          clear hl a; intro a hl
          refine wli nofun (fun _ _ h => h) (wl_val hl rfl trivial (r_assign hl rfl) ?_)
          clear hl a; intro a hl
          refine wi_nil ?_
          have hl2 := hl.add (t := 0) (hl.add (t := 1) (hl.add (t := 3) (hl.add (t := 4) (hl.add (t := 5) (hl.nil) rfl) rfl) rfl) rfl) rfl; clear hl; have hl := hl2; clear hl2
          refine then_normal ?_
          refine ⟨⟨i + 1, cu2, _⟩, (by simp only; omega), ⟨hct9, hI9 _ rfl⟩, hl.addE (t := 5) (hl.addE (t := 4) (hl.addE (t := 0) (hl.addE (t := 1) (hl.addE (t := 3) (hl.nil) rfl (by first | rfl | exact congrArg (Value.int .i64) (i_succ i))) rfl (by first | rfl | exact congrArg (Value.int .i64) (i_succ i))) rfl (by first | rfl | exact congrArg (Value.int .i64) (i_succ i))) rfl (by first | rfl | exact congrArg (Value.int .i64) (i_succ i))) rfl (by first | rfl | exact congrArg (Value.int .i64) (i_succ i)), hh.keep (by repeat (first | exact keeps_nil | apply keeps_cons (by repeat (first | exact find_head | apply find_tail)) (by first  | rfl) | exact keeps_self | exact keeps_left | exact keeps_right | exact keeps_swap | apply keeps_mv))⟩
  · intro hc0
    try simp only [decide_eq_true_eq, decide_eq_false_iff_not, Bool.not_eq_true', Bool.not_eq_false', Bool.not_eq_true, Bool.not_eq_false, Bool.and_eq_true, Bool.or_eq_true, Bool.and_eq_false_iff, Bool.or_eq_false_iff, Bool.not_not, ne_eq, Int.not_lt, Int.not_le, Decidable.not_not, beq_iff_eq, bne_iff_ne] at hc0
    have hfin : cur = holesP s bl := by
      rcases hI with h | h
      · omega
      · exact h.2
    rw [hfin] at hh hct
    refine i_exit ?_
    refine then_exit ?_
    refine then_exit ?_
    refine blk_exit ?_
    refine f_end0 (F' := Bl (holesP s bl)) hl hh rfl (by repeat (first | exact keeps_nil | apply keeps_cons (by repeat (first | exact find_head | apply find_tail)) (by first  | rfl) | exact keeps_self | exact keeps_left | exact keeps_right | exact keeps_swap | apply keeps_mv)) ?_
    exact ⟨rfl, .inl ⟨hct, rfl⟩⟩
end Go.Proofs.Qxb6500912aGreatDoor

import Derived.Test.Qxb6500912aGreatDoorA9
namespace Go.Proofs.Qxb6500912aGreatDoor
open Go.Eng
set_option linter.unusedVariables false
set_option linter.unusedSimpArgs false
theorem agg40 : aggOk Tryz.prog 40 3 = true := by kernel_rfl
theorem zero40 : zeroOk Tryz.prog 40 (.agg #[(.int .u8 0), (.int .u32 0), (.int .u32 0)]) := by unfold zeroOk; kernel_rfl
theorem zero4 : zeroOk Tryz.prog 4 (.bool false) := by unfold zeroOk; kernel_rfl
theorem fld93_3 : fieldOk Tryz.prog 93 3 3 = true := by kernel_rfl
theorem bld40 : buildOk Tryz.prog 40 [(0, 1), (1, 1), (2, 1)] = true := by kernel_rfl
/-! ## what may go next -/
structure Gr where
  k : Int
  q : Int
  n : Int
def g0 : Gr := ⟨0, 0, 0⟩
def grc (g : Gr) : List Value := [.int .u8 g.k, .int .u32 g.q, .int .u32 g.n]
def nhS (s : CS) (h : Hole) : Int := if lessP h.s s.high = true then s.high else h.s
def nhSkip (lost : Bool) (h : Hole) : Bool := (h.lost != lost) || (!lost && h.tail)
def nhOk (s : CS) (lost : Bool) (h : Hole) : Option Gr :=
  if nhSkip lost h = true then none else if lessP (nhS s h) h.e = true then some ⟨2, nhS s h, min s.mss ((h.e - nhS s h) % 4294967296)⟩ else none
def nhP (s : CS) (bl : List (Int × Int)) (lost : Bool) : Option Gr := (holesP s bl).findSome? (nhOk s lost)
theorem find_snoc {f : Hole → Option Gr} {pre : List Hole} {x : Hole} (h : pre.findSome? f = none) : (pre ++ [x]).findSome? f = f x := by
  rw [List.findSome?_append, h]
  simp [List.findSome?]
  cases f x <;> rfl
theorem find_pre {f : Hole → Option Gr} {p all : List Hole} (h : p <+: all) (hs : (p.findSome? f).isSome = true) : all.findSome? f = p.findSome? f := by
  obtain ⟨r, rfl⟩ := h
  rw [List.findSome?_append]
  cases hp : p.findSome? f with
  | none => rw [hp] at hs; cases hs
  | some v => rfl
section nh
variable {s : CS} {lost : Bool} {x : Hole}
theorem nh_1 (h : nhSkip lost x = true) : nhOk s lost x = none := by unfold nhOk; rw [if_pos h]
theorem nh_2 (h : nhSkip lost x = false) (h2 : lessP (nhS s x) x.e = true) : nhOk s lost x = some ⟨2, nhS s x, min s.mss ((x.e - nhS s x) % 4294967296)⟩ := by unfold nhOk; rw [if_neg (by simp [h]), if_pos h2]
theorem nh_3 (h2 : lessP (nhS s x) x.e = false) : nhOk s lost x = none := by
  unfold nhOk; split
  · rfl
  · rw [if_neg (by simp [h2])]
theorem skip_1 (h : (x.lost == lost) = false) : nhSkip lost x = true := by unfold nhSkip; simp [bne, h]
theorem skip_2 (h1 : x.lost = lost) (h2 : lost = false) (h3 : x.tail = true) : nhSkip lost x = true := by unfold nhSkip; simp [h1, h2, h3]
theorem keep_1 (h1 : x.lost = lost) (h2 : lost = true) : nhSkip lost x = false := by unfold nhSkip; simp [h1, h2]
theorem keep_2 (h1 : x.lost = lost) (h2 : lost = false) (h3 : x.tail = false) : nhSkip lost x = false := by unfold nhSkip; simp [h1, h2, h3]
theorem nhS_1 (h : lessP x.s s.high = true) : s.high = nhS s x := by unfold nhS; rw [if_pos h]
theorem nhS_2 (h : lessP x.s s.high = false) : x.s = nhS s x := by unfold nhS; rw [if_neg (by simp [h])]
end nh
def lastH (l : List Hole) : Hole := l.getLast?.getD ⟨0, 0, false, false⟩
def resN (s : CS) (bl : List (Int × Int)) : Int := min s.mss (((lastH (holesP s bl)).e - (lastH (holesP s bl)).s) % 4294967296)
def resP (s : CS) (bl : List (Int × Int)) : Gr := ⟨3, ((lastH (holesP s bl)).e - resN s bl) % 4294967296, resN s bl⟩
theorem lastH_snoc (l : List Hole) (x : Hole) : lastH (l ++ [x]) = x := by simp [lastH]
def repP (s : CS) (ns : Bool) : Bool := decide (s.phase = 2) || (decide (s.phase = 1) && !ns)
def cand2 (s : CS) (ns : Bool) (bl : List (Int × Int)) : Gr :=
  if s.phase = 1 ∧ ns = false then ((nhP s bl false).getD (if 0 < resN s bl ∧ s.resc = false then resP s bl else g0)) else g0
def cand1 (s : CS) (ns : Bool) (bl : List (Int × Int)) (fresh : Int) : Gr :=
  if 0 < min (min fresh s.mss) (2147483647 - flightP s) then ⟨1, s.nxt, min (min fresh s.mss) (2147483647 - flightP s)⟩ else cand2 s ns bl
def candP (s : CS) (ns : Bool) (bl : List (Int × Int)) (fresh : Int) : Gr :=
  if repP s ns = true then (nhP s bl true).getD (cand1 s ns bl fresh) else cand1 s ns bl fresh
def nextP (s : CS) (ns : Bool) (bl : List (Int × Int)) (fresh : Int) : Gr :=
  if s.forced = true then ⟨2, s.una, min s.mss (flightP s)⟩ else
  if s.cwnd < pipeP s ns bl ∨ s.cwnd - pipeP s ns bl < (candP s ns bl fresh).n then g0 else candP s ns bl fresh
section cand
variable {s : CS} {ns : Bool} {bl : List (Int × Int)} {fresh : Int}
theorem candP_1 (h : repP s ns = true) (h2 : (nhP s bl true).isSome = true) : (nhP s bl true).getD g0 = candP s ns bl fresh := by
  unfold candP; rw [if_pos h]; cases h3 : nhP s bl true with
  | none => rw [h3] at h2; cases h2
  | some g => rfl
theorem candP_2 (h : repP s ns = true) (h2 : (nhP s bl true).isSome = false) : cand1 s ns bl fresh = candP s ns bl fresh := by
  unfold candP; rw [if_pos h]; cases h3 : nhP s bl true with
  | none => rfl
  | some g => rw [h3] at h2; cases h2
theorem candP_3 (h : repP s ns = false) : cand1 s ns bl fresh = candP s ns bl fresh := by unfold candP; rw [if_neg (by simp [h])]
theorem cand1_1 (h : 0 < min (min fresh s.mss) (2147483647 - flightP s)) : (⟨1, s.nxt, min (min fresh s.mss) (2147483647 - flightP s)⟩ : Gr) = cand1 s ns bl fresh := by unfold cand1; rw [if_pos h]
theorem cand1_2 (h : min (min fresh s.mss) (2147483647 - flightP s) ≤ 0) : cand2 s ns bl = cand1 s ns bl fresh := by unfold cand1; rw [if_neg (by omega)]
theorem cand2_1 (h : s.phase = 1) (h1 : ns = false) (h2 : (nhP s bl false).isSome = true) : (nhP s bl false).getD g0 = cand2 s ns bl := by
  unfold cand2; rw [if_pos ⟨h, h1⟩]; cases h3 : nhP s bl false with
  | none => rw [h3] at h2; cases h2
  | some g => rfl
theorem cand2_2 (h : s.phase = 1) (h1 : ns = false) (h2 : (nhP s bl false).isSome = false) (h3 : 0 < resN s bl) (h4 : s.resc = false) : resP s bl = cand2 s ns bl := by
  unfold cand2; rw [if_pos ⟨h, h1⟩, if_pos ⟨h3, h4⟩]; cases h5 : nhP s bl false with
  | none => rfl
  | some g => rw [h5] at h2; cases h2
theorem cand2_3 (h : s.phase = 1) (h1 : ns = false) (h2 : (nhP s bl false).isSome = false) (h3 : ¬ (0 < resN s bl ∧ s.resc = false)) : g0 = cand2 s ns bl := by
  unfold cand2; rw [if_pos ⟨h, h1⟩, if_neg h3]; cases h5 : nhP s bl false with
  | none => rfl
  | some g => rw [h5] at h2; cases h2
theorem cand2_4 (h : ¬ (s.phase = 1 ∧ ns = false)) : g0 = cand2 s ns bl := by unfold cand2; rw [if_neg h]
end cand
theorem gr_eq {l : List Value} {g : Gr} (h : l = grc g) : C l 40 = C (grc g) 40 := by rw [h]
theorem repP_1 {s : CS} {ns : Bool} (h : s.phase = 2) : true = repP s ns := by unfold repP; simp [h]
theorem repP_2 {s : CS} {ns : Bool} (h : ¬ s.phase = 2) (h2 : s.phase = 1) : (!ns) = repP s ns := by unfold repP; simp [h2]
theorem repP_3 {s : CS} {ns : Bool} (h : ¬ s.phase = 2) (h2 : ¬ s.phase = 1) : false = repP s ns := by unfold repP; simp [h, h2]
section next
variable {s : CS} {ns : Bool} {bl : List (Int × Int)} {fresh : Int}
theorem nextP_1 (h : s.forced = true) : (⟨2, s.una, min s.mss (flightP s)⟩ : Gr) = nextP s ns bl fresh := by unfold nextP; rw [if_pos h]
theorem nextP_2 (h : s.forced = false) (h2 : s.cwnd < pipeP s ns bl) : g0 = nextP s ns bl fresh := by unfold nextP; rw [if_neg (by simp [h]), if_pos (.inl h2)]
theorem nextP_3 (h : s.forced = false) (h2 : s.cwnd - pipeP s ns bl < (candP s ns bl fresh).n) : g0 = nextP s ns bl fresh := by unfold nextP; rw [if_neg (by simp [h]), if_pos (.inr h2)]
theorem nextP_4 (h : s.forced = false) (h1 : pipeP s ns bl ≤ s.cwnd) (h2 : (candP s ns bl fresh).n ≤ s.cwnd - pipeP s ns bl) : candP s ns bl fresh = nextP s ns bl fresh := by unfold nextP; rw [if_neg (by simp [h]), if_neg (by omega)]
end next
theorem pipeStep_U (s : CS) {n : Int} (h : U n) (x : Hole) : U (pipeStep s n x) := by
  have h1 : U (if x.lost = false then (n + (x.e - x.s) % 4294967296) % 4294967296 else n) := by
    split
    · exact ⟨by omega, by omega⟩
    · exact h
  unfold pipeStep; simp only; split
  · generalize (if x.lost = false then (n + (x.e - x.s) % 4294967296) % 4294967296 else n) = z at h1 ⊢
    exact ⟨by omega, by omega⟩
  · exact h1
theorem pipeH_U (s : CS) : ∀ (l : List Hole) (n : Int), U n → U (l.foldl (pipeStep s) n)
  | [], _, h => h
  | x :: l, n, h => pipeH_U s l _ (pipeStep_U s h x)
theorem pipeP_U {s : CS} (hs : Ok s) (ns : Bool) (bl : List (Int × Int)) : U (pipeP s ns bl) := by
  have h1 := flightP_U s
  have hd := hs.dupt; have hm := hs.mss; have hdd := hs.dups
  have hp := prod_bd (a := min s.dups (s.dupt - 1)) (b := s.mss) (A := 15) (B := 65535) (by omega) (by omega)
  unfold pipeP; split
  · split
    · exact h1
    · exact ⟨by omega, by omega⟩
  · exact pipeH_U s _ 0 u0
structure Vw where
  cwnd : Int
  ssth : Int
  flight : Int
  pipe : Int
  dups : Int
  phase : Int
  forced : Bool
def vwc (v : Vw) : List Value := [.int .u32 v.cwnd, .int .u32 v.ssth, .int .u32 v.flight, .int .u32 v.pipe, .int .u32 v.dups, .int .u8 v.phase, .bool v.forced]
def viewP (s : CS) (ns : Bool) (bl : List (Int × Int)) : Vw := ⟨s.cwnd, s.ssth, flightP s, pipeP s ns bl, s.dups, s.phase, s.forced⟩


set_option maxHeartbeats 4000000 in
theorem nextHole_spec {Z : List (Nat × Obj)} (cp : Nat) (s : CS) (hs : Ok s) (sp : Option Addr) (bl : List (Int × Int)) (hZ : CtlR Z cp s sp bl) (lost : Bool) : SpK Tryz.prog 52 #[.pointer (some ⟨cp, 0, none⟩), .bool lost] (Mem Z) [] (fun v F' => v = .tuple #[.agg ⟨grc ((nhP s bl lost).getD g0)⟩, .bool (nhP s bl lost).isSome] ∧ F' = []) := by
  refine f_enterM (args := [.pointer (some ⟨cp, 0, none⟩), .bool lost]) Tryz.func52 rfl Tryz.ntmps52 rfl ?_
  intro w0 w a hpre hl hh
  have o1 := hs.init; have o2 := hs.maxc; have o3 := hs.bn; have o4 := hs.bd; have o5 := hs.abc; have o6 := hs.dupt; have o7 := hs.mss; have o8 := hs.cwnd; have o9 := hs.ssth; have o10 := hs.credit; have o11 := hs.una; have o12 := hs.nxt; have o13 := hs.phase; have o14 := hs.recov; have o15 := hs.high; have o16 := hs.dups; have o17 := flightP_U s
  have hm := hpre _ _ hZ.mem
  simp only [slotsFrom, Nat.reduceAdd] at hl
  refine i_seq ?_
  refine i_region ?_
  refine wli nofun (fun _ _ h => h) (w_box hl hh rfl trivial rfl rfl ?_)
  clear hl hh a w; intro k2 a w hl hh
  refine wli nofun (fun _ _ h => h) (w_box hl hh rfl trivial rfl rfl ?_)
  clear hl hh a w; intro k3 a w hl hh
  refine wli nofun (fun _ _ h => h) (w_alloc hl hh rfl trivial zero40 rfl ?_)
  clear hl hh a w; intro k4 a w hl hh
  refine wli nofun (fun _ _ h => h) (w_alloc hl hh rfl trivial zero4 rfl ?_)
  clear hl hh a w; intro k5 a w hl hh
  refine wi_nil ?_
  have hl2 := hl.add (t := 2) (hl.add (t := 3) (hl.add (t := 4) (hl.add (t := 5) (hl.nil) rfl) rfl) rfl) rfl; clear hl; have hl := hl2; clear hl2
  refine then_normal ?_
  refine i_seq ?_
  refine i_seq ?_
  refine i_region ?_
  first | refine wli nofun (fun _ _ h => h) (w_load hl hh rfl trivial one24 rfl (by repeat (first | exact find_head | apply find_tail)) (by first | rfl) ?_) | refine wli nofun (fun _ _ h => h) (w_loadR hl hh rfl trivial one24 rfl hm (by simp) rfl ?_) | refine wli nofun (fun _ _ h => h) (w_loadR hl hh rfl trivial one24 rfl hm9 hcD9 rfl ?_)
  clear hl a; intro a hl
  refine wli nofun (fun _ _ h => h) (w_call hl hh rfl trivial rfl cal54 rfl (holes_spec cp) (by repeat (first | exact keeps_nil | apply keeps_cons (by repeat (first | exact find_head | apply find_tail)) (by first  | rfl) | exact keeps_self | exact keeps_left | exact keeps_right | exact keeps_swap | apply keeps_mv)) trivial ?_)
  clear hl hh a w; intro vc Fc a w hR hl hh
  obtain ⟨kb, rfl, rfl⟩ := hR
  try simp only [List.cons_append, List.nil_append] at hh
  refine wi_nil ?_
  have hl2 := hl.add (t := 2) (hl.add (t := 3) (hl.add (t := 4) (hl.add (t := 5) (hl.add (t := 9) (hl.nil) rfl) rfl) rfl) rfl) rfl; clear hl; have hl := hl2; clear hl2
  refine then_normal ?_
  refine i_block ?_
  refine range_holes hs hZ hl hh rfl hpre rfl (fun _ => [(k2, C [.pointer (some ⟨cp, 0, none⟩)] 24), (k3, C [.bool lost] 4), (k4, C [.int .u8 0, .int .u32 0, .int .u32 0] 40), (k5, C [.bool false] 4)]) (fun p => [(k2, C [.pointer (some ⟨cp, 0, none⟩)] 24), (k3, C [.bool lost] 4), (k4, C (grc (((p).findSome? (nhOk s lost)).getD g0)) 40), (k5, C [.bool ((p).findSome? (nhOk s lost)).isSome] 4)]) (fun p => p.findSome? (nhOk s lost) = none) (fun p => (p.findSome? (nhOk s lost)).isSome = true) rfl [k2, k3, k4, k5] (fun _ => rfl) (keeps_cons (by repeat (first | exact find_head | apply find_tail)) rfl (keeps_cons (by repeat (first | exact find_head | apply find_tail)) rfl (keeps_cons (by repeat (first | exact find_head | apply find_tail)) rfl (keeps_cons (by repeat (first | exact find_head | apply find_tail)) rfl keeps_nil)))) (by simp) ?_ ?_ ?_
  ·
    clear hl hh a w; intro l lp pre x w9 w a hpx hcp hpz hl hh hdZ
    have hm9 := hpz _ _ hZ.mem; have hcD9 := hdZ _ hZ.mem
    simp only [hoc] at hl
    refine i_region ?_
    refine wli nofun (fun _ _ h => h) (w_alloc hl hh rfl trivial zero93 rfl ?_)
    clear hl hh a w; intro k6 a w hl hh
    refine wli nofun (fun _ _ h => h) (w_storeA hl hh trivial agg93 rfl rfl (by repeat (first | exact find_head | apply find_tail)) (by first | rfl | (simp; done)) (by first | (simp; done) | (simp; omega)) (by first | rfl | (simp; done)) (by first | (simp only [encC, setL, List.getElem?_cons_zero, List.getElem?_cons_succ, Value.cells, List.take_zero, List.take_succ_cons, List.take_nil, List.drop_zero, List.drop_succ_cons, List.drop_nil, List.length_cons, List.length_nil, List.cons_append, List.nil_append, List.append_nil, Nat.zero_add, Nat.add_zero, Nat.reduceAdd, Nat.reduceBEq, Nat.reduceEqDiff, Nat.ble, BEq.rfl, Bool.and_true, Bool.and_self, cond_true, beq_self_eq_true]; rfl) | (simp only [setL, List.getElem?_cons_zero, List.getElem?_cons_succ, Value.cells, List.take_zero, List.take_succ_cons, List.take_nil, List.drop_zero, List.drop_succ_cons, List.drop_nil, List.length_cons, List.length_nil, List.cons_append, List.nil_append, List.append_nil, Nat.zero_add, Nat.add_zero, Nat.reduceAdd, Nat.reduceBEq, Nat.reduceEqDiff, Nat.ble, BEq.rfl, Bool.and_true, Bool.and_self, cond_true, beq_self_eq_true]; rfl)) ?_)
    clear hh w; intro w hh
    refine wi_nil ?_
    have hl2 := hl.add (t := 2) (hl.add (t := 3) (hl.add (t := 4) (hl.add (t := 5) (hl.add (t := 6) (hl.nil) rfl) rfl) rfl) rfl) rfl; clear hl; have hl := hl2; clear hl2
    refine then_normal ?_
    refine ⟨_, hh.perm (Find.perm (b := l) (by repeat (first | exact find_head | apply find_tail))), ?_⟩
    clear hh w; intro w hh
    refine i_block ?_
    refine i_seq ?_
    refine i_seq ?_
    refine i_region ?_
    refine wli nofun (fun _ _ h => h) (wl_val hl rfl trivial (r_field hl rfl fld93_2) ?_)
    clear hl a; intro a hl
    first | refine wli nofun (fun _ _ h => h) (w_load hl hh rfl trivial one4 rfl (by repeat (first | exact find_head | apply find_tail)) (by first | rfl) ?_) | refine wli nofun (fun _ _ h => h) (w_loadR hl hh rfl trivial one4 rfl hm (by simp) rfl ?_) | refine wli nofun (fun _ _ h => h) (w_loadR hl hh rfl trivial one4 rfl hm9 hcD9 rfl ?_)
    clear hl a; intro a hl
    first | refine wli nofun (fun _ _ h => h) (w_load hl hh rfl trivial one4 rfl (by repeat (first | exact find_head | apply find_tail)) (by first | rfl) ?_) | refine wli nofun (fun _ _ h => h) (w_loadR hl hh rfl trivial one4 rfl hm (by simp) rfl ?_) | refine wli nofun (fun _ _ h => h) (w_loadR hl hh rfl trivial one4 rfl hm9 hcD9 rfl ?_)
    clear hl a; intro a hl
    refine wli nofun (fun _ _ h => h) (wl_val hl rfl trivial (r_neq_bool hl rfl rfl Tryz.underlying4) ?_)
    clear hl a; intro a hl
    refine wli nofun (fun _ _ h => h) (wl_val hl rfl trivial (r_move hl rfl) ?_)
    clear hl a; intro a hl
    refine sl_split (t := 15) hl rfl ?_ ?_
    · intro hg1; clear hl; intro hl
      try simp only [decide_eq_true_eq, decide_eq_false_iff_not, Bool.not_eq_true', Bool.not_eq_false', Bool.not_eq_true, Bool.not_eq_false, Bool.and_eq_true, Bool.or_eq_true, Bool.and_eq_false_iff, Bool.or_eq_false_iff, Bool.not_not, ne_eq, Int.not_lt, Int.not_le, Decidable.not_not, beq_iff_eq, bne_iff_ne] at hg1
      refine wli nofun (fun _ _ h => h) (wl_skip hl rfl ⟨_, _, rfl, rfl, rfl⟩ ?_)
      clear hl a; intro a hl
      refine wli nofun (fun _ _ h => h) (wl_skip hl rfl ⟨_, _, rfl, rfl, rfl⟩ ?_)
      clear hl a; intro a hl
      refine wli nofun (fun _ _ h => h) (wl_skip hl rfl ⟨_, _, rfl, rfl, rfl⟩ ?_)
      clear hl a; intro a hl
      refine wli nofun (fun _ _ h => h) (wl_skipU hl rfl ⟨_, _, rfl, rfl, rfl⟩ ?_)
      clear hl a; intro a hl
      refine wli nofun (fun _ _ h => h) (wl_skipU hl rfl ⟨_, _, rfl, rfl, rfl⟩ ?_)
      clear hl a; intro a hl
      refine wli nofun (fun _ _ h => h) (wl_skip hl rfl ⟨_, _, rfl, rfl, rfl⟩ ?_)
      clear hl a; intro a hl
      refine wli nofun (fun _ _ h => h) (wl_val hl rfl trivial (r_pickT hl rfl rfl) ?_)
      clear hl a; intro a hl
      refine wi_nil ?_
      have hl2 := hl.add (t := 2) (hl.add (t := 4) (hl.add (t := 5) (hl.add (t := 6) (hl.add (t := 22) (hl.nil) rfl) rfl) rfl) rfl) rfl; clear hl; have hl := hl2; clear hl2
      refine then_normal ?_
      refine i_condT hl rfl ?_
      refine i_exit ?_
      refine then_exit ?_
      refine blk_exit ?_
      have hno : nhOk s lost x = none := by first | exact nh_1 (skip_1 (by assumption)) | exact nh_1 (skip_2 (by assumption) (by assumption) (by assumption)) | exact nh_3 (by assumption)
      refine ⟨[(k2, C [.pointer (some ⟨cp, 0, none⟩)] 24), (k3, C [.bool lost] 4), (k4, C [.int .u8 0, .int .u32 0, .int .u32 0] 40), (k5, C [.bool false] 4)], ⟨(find_snoc hcp).trans hno, rfl⟩, hh.keep (by repeat (first | exact keeps_nil | apply keeps_cons (by repeat (first | exact find_head | apply find_tail)) (by first  | rfl) | exact keeps_self | exact keeps_left | exact keeps_right | exact keeps_swap | apply keeps_mv))⟩
    · intro hg1; clear hl; intro hl
      try simp only [decide_eq_true_eq, decide_eq_false_iff_not, Bool.not_eq_true', Bool.not_eq_false', Bool.not_eq_true, Bool.not_eq_false, Bool.and_eq_true, Bool.or_eq_true, Bool.and_eq_false_iff, Bool.or_eq_false_iff, Bool.not_not, ne_eq, Int.not_lt, Int.not_le, Decidable.not_not, beq_iff_eq, bne_iff_ne] at hg1
      first | refine wli nofun (fun _ _ h => h) (w_load hl hh rfl ⟨_, _, rfl, rfl, rfl⟩ one4 rfl (by repeat (first | exact find_head | apply find_tail)) (by first | rfl) ?_) | refine wli nofun (fun _ _ h => h) (w_loadR hl hh rfl ⟨_, _, rfl, rfl, rfl⟩ one4 rfl hm (by simp) rfl ?_) | refine wli nofun (fun _ _ h => h) (w_loadR hl hh rfl ⟨_, _, rfl, rfl, rfl⟩ one4 rfl hm9 hcD9 rfl ?_)
      clear hl a; intro a hl
      refine wli nofun (fun _ _ h => h) (wl_val hl rfl ⟨_, _, rfl, rfl, rfl⟩ (r_not hl rfl) ?_)
      clear hl a; intro a hl
      refine wli nofun (fun _ _ h => h) (wl_val hl rfl ⟨_, _, rfl, rfl, rfl⟩ (r_move hl rfl) ?_)
      clear hl a; intro a hl
      refine sl_split (t := 18) hl rfl ?_ ?_
      · intro hg2; clear hl; intro hl
        try simp only [decide_eq_true_eq, decide_eq_false_iff_not, Bool.not_eq_true', Bool.not_eq_false', Bool.not_eq_true, Bool.not_eq_false, Bool.and_eq_true, Bool.or_eq_true, Bool.and_eq_false_iff, Bool.or_eq_false_iff, Bool.not_not, ne_eq, Int.not_lt, Int.not_le, Decidable.not_not, beq_iff_eq, bne_iff_ne] at hg2
        refine wli nofun (fun _ _ h => h) (wl_val hl rfl ⟨_, _, rfl, rfl, rfl⟩ (r_field hl rfl fld93_3) ?_)
        clear hl a; intro a hl
        first | refine wli nofun (fun _ _ h => h) (w_load hl hh rfl ⟨_, _, rfl, rfl, rfl⟩ one4 rfl (by repeat (first | exact find_head | apply find_tail)) (by first | rfl) ?_) | refine wli nofun (fun _ _ h => h) (w_loadR hl hh rfl ⟨_, _, rfl, rfl, rfl⟩ one4 rfl hm (by simp) rfl ?_) | refine wli nofun (fun _ _ h => h) (w_loadR hl hh rfl ⟨_, _, rfl, rfl, rfl⟩ one4 rfl hm9 hcD9 rfl ?_)
        clear hl a; intro a hl
        refine wli nofun (fun _ _ h => h) (wl_val hl rfl ⟨_, _, rfl, rfl, rfl⟩ (r_pickT hl rfl rfl) ?_)
        clear hl a; intro a hl
        refine wli nofun (fun _ _ h => h) (wl_val hl rfl trivial (r_pickF hl rfl rfl) ?_)
        clear hl a; intro a hl
        refine wi_nil ?_
        have hl2 := hl.add (t := 2) (hl.add (t := 4) (hl.add (t := 5) (hl.add (t := 6) (hl.add (t := 22) (hl.nil) rfl) rfl) rfl) rfl) rfl; clear hl; have hl := hl2; clear hl2
        refine then_normal ?_
        refine i_cond hl rfl ?_ ?_
        · intro hc0
          try simp only [decide_eq_true_eq, decide_eq_false_iff_not, Bool.not_eq_true', Bool.not_eq_false', Bool.not_eq_true, Bool.not_eq_false, Bool.and_eq_true, Bool.or_eq_true, Bool.and_eq_false_iff, Bool.or_eq_false_iff, Bool.not_not, ne_eq, Int.not_lt, Int.not_le, Decidable.not_not, beq_iff_eq, bne_iff_ne] at hc0
          refine i_exit ?_
          refine then_exit ?_
          refine blk_exit ?_
          have hno : nhOk s lost x = none := by first | exact nh_1 (skip_1 (by assumption)) | exact nh_1 (skip_2 (by assumption) (by assumption) (by assumption)) | exact nh_3 (by assumption)
          refine ⟨[(k2, C [.pointer (some ⟨cp, 0, none⟩)] 24), (k3, C [.bool lost] 4), (k4, C [.int .u8 0, .int .u32 0, .int .u32 0] 40), (k5, C [.bool false] 4)], ⟨(find_snoc hcp).trans hno, rfl⟩, hh.keep (by repeat (first | exact keeps_nil | apply keeps_cons (by repeat (first | exact find_head | apply find_tail)) (by first  | rfl) | exact keeps_self | exact keeps_left | exact keeps_right | exact keeps_swap | apply keeps_mv))⟩
        · intro hc0
          try simp only [decide_eq_true_eq, decide_eq_false_iff_not, Bool.not_eq_true', Bool.not_eq_false', Bool.not_eq_true, Bool.not_eq_false, Bool.and_eq_true, Bool.or_eq_true, Bool.and_eq_false_iff, Bool.or_eq_false_iff, Bool.not_not, ne_eq, Int.not_lt, Int.not_le, Decidable.not_not, beq_iff_eq, bne_iff_ne] at hc0
          refine i_skip ?_
          refine then_normal ?_
          refine i_seq ?_
          refine i_region ?_
          refine wli nofun (fun _ _ h => h) (wl_val hl rfl trivial (r_field hl rfl fld93_0) ?_)
          clear hl a; intro a hl
          first | refine wli nofun (fun _ _ h => h) (w_load hl hh rfl trivial one29 rfl (by repeat (first | exact find_head | apply find_tail)) (by first | rfl) ?_) | refine wli nofun (fun _ _ h => h) (w_loadR hl hh rfl trivial one29 rfl hm (by simp) rfl ?_) | refine wli nofun (fun _ _ h => h) (w_loadR hl hh rfl trivial one29 rfl hm9 hcD9 rfl ?_)
          clear hl a; intro a hl
          refine wli nofun (fun _ _ h => h) (wl_val hl rfl trivial (r_assign hl rfl) ?_)
          clear hl a; intro a hl
          refine wi_nil ?_
          have hl2 := hl.add (t := 2) (hl.add (t := 4) (hl.add (t := 5) (hl.add (t := 6) (hl.add (t := 7) (hl.nil) rfl) rfl) rfl) rfl) rfl; clear hl; have hl := hl2; clear hl2
          refine then_normal ?_
          refine i_seq ?_
          refine i_seq ?_
          refine i_region ?_
          refine wli nofun (fun _ _ h => h) (wl_val hl rfl trivial (r_move hl rfl) ?_)
          clear hl a; intro a hl
          first | refine wli nofun (fun _ _ h => h) (w_load hl hh rfl trivial one24 rfl (by repeat (first | exact find_head | apply find_tail)) (by first | rfl) ?_) | refine wli nofun (fun _ _ h => h) (w_loadR hl hh rfl trivial one24 rfl hm (by simp) rfl ?_) | refine wli nofun (fun _ _ h => h) (w_loadR hl hh rfl trivial one24 rfl hm9 hcD9 rfl ?_)
          clear hl a; intro a hl
          refine wli nofun (fun _ _ h => h) (wl_val hl rfl trivial (r_nilCheck hl rfl) ?_)
          clear hl a; intro a hl
          refine wli nofun (fun _ _ h => h) (wl_val hl rfl trivial (r_field hl rfl fld66_10) ?_)
          clear hl a; intro a hl
          first | refine wli nofun (fun _ _ h => h) (w_load hl hh rfl trivial one29 rfl (by repeat (first | exact find_head | apply find_tail)) (by first | rfl) ?_) | refine wli nofun (fun _ _ h => h) (w_loadR hl hh rfl trivial one29 rfl hm (by simp) rfl ?_) | refine wli nofun (fun _ _ h => h) (w_loadR hl hh rfl trivial one29 rfl hm9 hcD9 rfl ?_)
          clear hl a; intro a hl
          refine wli nofun (fun _ _ h => h) (w_call hl hh rfl trivial rfl cal39 rfl (less_spec _ _) (by repeat (first | exact keeps_nil | apply keeps_cons (by repeat (first | exact find_head | apply find_tail)) (by first  | rfl) | exact keeps_self | exact keeps_left | exact keeps_right | exact keeps_swap | apply keeps_mv)) trivial ?_)
          clear hl hh a w; intro vc Fc a w hR hl hh
          obtain ⟨rfl, rfl⟩ := hR
          try simp only [List.cons_append, List.nil_append] at hh
          refine wi_nil ?_
          have hl2 := hl.add (t := 2) (hl.add (t := 4) (hl.add (t := 5) (hl.add (t := 6) (hl.add (t := 7) (hl.add (t := 30) (hl.nil) rfl) rfl) rfl) rfl) rfl) rfl; clear hl; have hl := hl2; clear hl2
          refine then_normal ?_
          refine i_cond hl rfl ?_ ?_
          · intro hc1
            try simp only [decide_eq_true_eq, decide_eq_false_iff_not, Bool.not_eq_true', Bool.not_eq_false', Bool.not_eq_true, Bool.not_eq_false, Bool.and_eq_true, Bool.or_eq_true, Bool.and_eq_false_iff, Bool.or_eq_false_iff, Bool.not_not, ne_eq, Int.not_lt, Int.not_le, Decidable.not_not, beq_iff_eq, bne_iff_ne] at hc1
            refine i_region ?_
            first | refine wli nofun (fun _ _ h => h) (w_load hl hh rfl trivial one24 rfl (by repeat (first | exact find_head | apply find_tail)) (by first | rfl) ?_) | refine wli nofun (fun _ _ h => h) (w_loadR hl hh rfl trivial one24 rfl hm (by simp) rfl ?_) | refine wli nofun (fun _ _ h => h) (w_loadR hl hh rfl trivial one24 rfl hm9 hcD9 rfl ?_)
            clear hl a; intro a hl
            refine wli nofun (fun _ _ h => h) (wl_val hl rfl trivial (r_nilCheck hl rfl) ?_)
            clear hl a; intro a hl
            refine wli nofun (fun _ _ h => h) (wl_val hl rfl trivial (r_field hl rfl fld66_10) ?_)
            clear hl a; intro a hl
            first | refine wli nofun (fun _ _ h => h) (w_load hl hh rfl trivial one29 rfl (by repeat (first | exact find_head | apply find_tail)) (by first | rfl) ?_) | refine wli nofun (fun _ _ h => h) (w_loadR hl hh rfl trivial one29 rfl hm (by simp) rfl ?_) | refine wli nofun (fun _ _ h => h) (w_loadR hl hh rfl trivial one29 rfl hm9 hcD9 rfl ?_)
            clear hl a; intro a hl
            refine wli nofun (fun _ _ h => h) (wl_val hl rfl trivial (r_assign hl rfl) ?_)
            clear hl a; intro a hl
            refine wi_nil ?_
            have hl2 := hl.add (t := 2) (hl.add (t := 4) (hl.add (t := 5) (hl.add (t := 6) (hl.add (t := 7) (hl.nil) rfl) rfl) rfl) rfl) rfl; clear hl; have hl := hl2; clear hl2
            rw [nhS_1 (s := s) (x := x) hc1] at hl
            refine then_normal ?_
            refine i_seq ?_
            refine i_region ?_
            refine wli nofun (fun _ _ h => h) (wl_val hl rfl trivial (r_move hl rfl) ?_)
            clear hl a; intro a hl
            refine wli nofun (fun _ _ h => h) (wl_val hl rfl trivial (r_field hl rfl fld93_1) ?_)
            clear hl a; intro a hl
            first | refine wli nofun (fun _ _ h => h) (w_load hl hh rfl trivial one29 rfl (by repeat (first | exact find_head | apply find_tail)) (by first | rfl) ?_) | refine wli nofun (fun _ _ h => h) (w_loadR hl hh rfl trivial one29 rfl hm (by simp) rfl ?_) | refine wli nofun (fun _ _ h => h) (w_loadR hl hh rfl trivial one29 rfl hm9 hcD9 rfl ?_)
            clear hl a; intro a hl
            refine wli nofun (fun _ _ h => h) (w_call hl hh rfl trivial rfl cal39 rfl (less_spec _ _) (by repeat (first | exact keeps_nil | apply keeps_cons (by repeat (first | exact find_head | apply find_tail)) (by first  | rfl) | exact keeps_self | exact keeps_left | exact keeps_right | exact keeps_swap | apply keeps_mv)) trivial ?_)
            clear hl hh a w; intro vc Fc a w hR hl hh
            obtain ⟨rfl, rfl⟩ := hR
            try simp only [List.cons_append, List.nil_append] at hh
            refine wi_nil ?_
            have hl2 := hl.add (t := 2) (hl.add (t := 4) (hl.add (t := 5) (hl.add (t := 6) (hl.add (t := 7) (hl.add (t := 38) (hl.nil) rfl) rfl) rfl) rfl) rfl) rfl; clear hl; have hl := hl2; clear hl2
            refine then_normal ?_
            refine i_cond hl rfl ?_ ?_
            · intro hc2
              try simp only [decide_eq_true_eq, decide_eq_false_iff_not, Bool.not_eq_true', Bool.not_eq_false', Bool.not_eq_true, Bool.not_eq_false, Bool.and_eq_true, Bool.or_eq_true, Bool.and_eq_false_iff, Bool.or_eq_false_iff, Bool.not_not, ne_eq, Int.not_lt, Int.not_le, Decidable.not_not, beq_iff_eq, bne_iff_ne] at hc2
              refine i_seq ?_
              refine i_draw [(k2, C [.pointer (some ⟨cp, 0, none⟩)] 24), (k6, C [.int .u32 x.s, .int .u32 x.e, .bool x.lost, .bool x.tail] 93), (cp, C (encC s sp) 66)] [10, 11, 12] mixed (by kernel_rfl) (fun _ _ h => h) hh ?_
              clear hh w; intro w hh
              have hM : Mem [(k2, C [.pointer (some ⟨cp, 0, none⟩)] 24), (k6, C [.int .u32 x.s, .int .u32 x.e, .bool x.lost, .bool x.tail] 93), (cp, C (encC s sp) 66)] w := (Mem.cons hh.mem (by repeat (first | exact find_head | apply find_tail)) (Mem.cons hh.mem (by repeat (first | exact find_head | apply find_tail)) (Mem.consR hh hm9 hcD9 Mem.nil)))
              refine d_take (i := 0) hl rfl (by kernel_rfl) (by kernel_rfl) (by kernel_rfl) (by kernel_rfl) (by kernel_rfl) rfl trivial (fun _ _ _ h => h) hM (fun w hC => r_move hl rfl) rfl ?_
              clear hl a; intro a hl
              refine d_take (i := 1) hl rfl (by kernel_rfl) (by kernel_rfl) (by kernel_rfl) (by kernel_rfl) (by kernel_rfl) rfl trivial (fun _ _ _ h => h) hM (fun w hC => r_loadC hl rfl one24 hC (by repeat (first | exact find_head | apply find_tail)) (by first | rfl)) rfl ?_
              clear hl a; intro a hl
              refine d_take (i := 2) hl rfl (by kernel_rfl) (by kernel_rfl) (by kernel_rfl) (by kernel_rfl) (by kernel_rfl) rfl trivial (fun _ _ _ h => h) hM (fun w hC => r_nilCheck hl rfl) rfl ?_
              clear hl a; intro a hl
              refine d_take (i := 3) hl rfl (by kernel_rfl) (by kernel_rfl) (by kernel_rfl) (by kernel_rfl) (by kernel_rfl) rfl trivial (fun _ _ _ h => h) hM (fun w hC => r_field hl rfl fld66_1) rfl ?_
              clear hl a; intro a hl
              refine d_take (i := 4) hl rfl (by kernel_rfl) (by kernel_rfl) (by kernel_rfl) (by kernel_rfl) (by kernel_rfl) rfl trivial (fun _ _ _ h => h) hM (fun w hC => r_loadC hl rfl one29 hC (by repeat (first | exact find_head | apply find_tail)) (by first | rfl)) rfl ?_
              clear hl a; intro a hl
              refine d_take (i := 5) hl rfl (by kernel_rfl) (by kernel_rfl) (by kernel_rfl) (by kernel_rfl) (by kernel_rfl) rfl trivial (fun _ _ _ h => h) hM (fun w hC => r_field hl rfl fld93_1) rfl ?_
              clear hl a; intro a hl
              refine d_take (i := 6) hl rfl (by kernel_rfl) (by kernel_rfl) (by kernel_rfl) (by kernel_rfl) (by kernel_rfl) rfl trivial (fun _ _ _ h => h) hM (fun w hC => r_loadC hl rfl one29 hC (by repeat (first | exact find_head | apply find_tail)) (by first | rfl)) rfl ?_
              clear hl a; intro a hl
              refine d_take (i := 7) hl rfl (by kernel_rfl) (by kernel_rfl) (by kernel_rfl) (by kernel_rfl) (by kernel_rfl) rfl trivial (fun _ _ _ h => h) hM (fun w hC => r_move hl rfl) rfl ?_
              clear hl a; intro a hl
              refine d_take (i := 8) hl rfl (by kernel_rfl) (by kernel_rfl) (by kernel_rfl) (by kernel_rfl) (by kernel_rfl) rfl trivial (fun _ _ _ h => h) hM (fun w hC => r_subM wm_u32 hl rfl rfl) rfl ?_
              clear hl a; intro a hl
              refine d_take (i := 9) hl rfl (by kernel_rfl) (by kernel_rfl) (by kernel_rfl) (by kernel_rfl) (by kernel_rfl) rfl trivial (fun _ _ _ h => h) hM (fun w hC => r_minI hl rfl rfl) rfl ?_
              clear hl a; intro a hl
              refine d_takeL (i := 10) hl rfl (by kernel_rfl) (by kernel_rfl) (by kernel_rfl) (by kernel_rfl) (by kernel_rfl) rfl trivial (fun _ _ _ h => h) (fun w => r_build hl rfl zero40 bld40 (by simp only [fillL, setL, List.getElem?_cons_zero, List.getElem?_cons_succ, Value.cells, List.take_zero, List.take_succ_cons, List.take_nil, List.drop_zero, List.drop_succ_cons, List.drop_nil, List.length_cons, List.length_nil, List.cons_append, List.nil_append, List.append_nil, Nat.zero_add, Nat.add_zero, Nat.reduceAdd, Nat.reduceBEq, Nat.reduceEqDiff, Nat.ble, BEq.rfl, Bool.and_true, Bool.and_self, cond_true, beq_self_eq_true]; rfl)) rfl ?_
              clear hl a; intro a hl
              refine d_one (i := 11) (by kernel_rfl) rfl ?_
              try clear hM
              refine id (w_storeA hl hh trivial agg40 rfl rfl (by repeat (first | exact find_head | apply find_tail)) (by first | rfl | (simp; done)) (by first | (simp; done) | (simp; omega)) (by first | rfl | (simp; done)) (by first | (simp only [encC, setL, List.getElem?_cons_zero, List.getElem?_cons_succ, Value.cells, List.take_zero, List.take_succ_cons, List.take_nil, List.drop_zero, List.drop_succ_cons, List.drop_nil, List.length_cons, List.length_nil, List.cons_append, List.nil_append, List.append_nil, Nat.zero_add, Nat.add_zero, Nat.reduceAdd, Nat.reduceBEq, Nat.reduceEqDiff, Nat.ble, BEq.rfl, Bool.and_true, Bool.and_self, cond_true, beq_self_eq_true]; rfl) | (simp only [setL, List.getElem?_cons_zero, List.getElem?_cons_succ, Value.cells, List.take_zero, List.take_succ_cons, List.take_nil, List.drop_zero, List.drop_succ_cons, List.drop_nil, List.length_cons, List.length_nil, List.cons_append, List.nil_append, List.append_nil, Nat.zero_add, Nat.add_zero, Nat.reduceAdd, Nat.reduceBEq, Nat.reduceEqDiff, Nat.ble, BEq.rfl, Bool.and_true, Bool.and_self, cond_true, beq_self_eq_true]; rfl)) ?_)
              clear hh w; intro w hh
              refine d_step (fun h => absurd h (by decide)) ?_
              refine d_one (i := 12) (by kernel_rfl) rfl ?_
              try clear hM
              refine id (w_store hl hh trivial one4 rfl rfl (by repeat (first | exact find_head | apply find_tail)) (by first | (simp; done) | (simp; omega)) (by first | rfl | assumption | (apply Row.one; assumption)) (by first | (simp only [encC, setL, List.getElem?_cons_zero, List.getElem?_cons_succ, Value.cells, List.take_zero, List.take_succ_cons, List.take_nil, List.drop_zero, List.drop_succ_cons, List.drop_nil, List.length_cons, List.length_nil, List.cons_append, List.nil_append, List.append_nil, Nat.zero_add, Nat.add_zero, Nat.reduceAdd, Nat.reduceBEq, Nat.reduceEqDiff, Nat.ble, BEq.rfl, Bool.and_true, Bool.and_self, cond_true, beq_self_eq_true]; rfl) | (simp only [setL, List.getElem?_cons_zero, List.getElem?_cons_succ, Value.cells, List.take_zero, List.take_succ_cons, List.take_nil, List.drop_zero, List.drop_succ_cons, List.drop_nil, List.length_cons, List.length_nil, List.cons_append, List.nil_append, List.append_nil, Nat.zero_add, Nat.add_zero, Nat.reduceAdd, Nat.reduceBEq, Nat.reduceEqDiff, Nat.ble, BEq.rfl, Bool.and_true, Bool.and_self, cond_true, beq_self_eq_true]; rfl)) ?_)
              clear hh w; intro w hh
              refine d_step (fun h => absurd h (by decide)) ?_
              refine d_done (by kernel_rfl) ?_
              try clear hM
              have hl2 := hl.add (t := 4) (hl.add (t := 5) (hl.nil) rfl) rfl; clear hl; have hl := hl2; clear hl2
              refine then_normal ?_
              refine i_ret ?_
              refine blk_ret ?_
              have hsk : nhSkip lost x = false := by first | exact keep_1 (by assumption) (by assumption) | exact keep_2 (by assumption) (by assumption) (by assumption)
              have hso := nh_2 (s := s) (lost := lost) (x := x) hsk (by assumption)
              have hfs := (find_snoc (f := nhOk s lost) (x := x) hcp).trans hso
              refine ⟨[(k2, C [.pointer (some ⟨cp, 0, none⟩)] 24), (k3, C [.bool lost] 4), (k4, C (grc ⟨2, nhS s x, min s.mss ((x.e - nhS s x) % 4294967296)⟩) 40), (k5, C [.bool true] 4)], ⟨by rw [hfs]; rfl, by rw [hfs]; rfl⟩, hh.keep (by repeat (first | exact keeps_nil | apply keeps_cons (by repeat (first | exact find_head | apply find_tail)) (by first  | rfl) | exact keeps_self | exact keeps_left | exact keeps_right | exact keeps_swap | apply keeps_mv))⟩
            · intro hc2
              try simp only [decide_eq_true_eq, decide_eq_false_iff_not, Bool.not_eq_true', Bool.not_eq_false', Bool.not_eq_true, Bool.not_eq_false, Bool.and_eq_true, Bool.or_eq_true, Bool.and_eq_false_iff, Bool.or_eq_false_iff, Bool.not_not, ne_eq, Int.not_lt, Int.not_le, Decidable.not_not, beq_iff_eq, bne_iff_ne] at hc2
              refine i_skip ?_
              refine blk_normal ?_
              have hno : nhOk s lost x = none := by first | exact nh_1 (skip_1 (by assumption)) | exact nh_1 (skip_2 (by assumption) (by assumption) (by assumption)) | exact nh_3 (by assumption)
              refine ⟨[(k2, C [.pointer (some ⟨cp, 0, none⟩)] 24), (k3, C [.bool lost] 4), (k4, C [.int .u8 0, .int .u32 0, .int .u32 0] 40), (k5, C [.bool false] 4)], ⟨(find_snoc hcp).trans hno, rfl⟩, hh.keep (by repeat (first | exact keeps_nil | apply keeps_cons (by repeat (first | exact find_head | apply find_tail)) (by first  | rfl) | exact keeps_self | exact keeps_left | exact keeps_right | exact keeps_swap | apply keeps_mv))⟩
          · intro hc1
            try simp only [decide_eq_true_eq, decide_eq_false_iff_not, Bool.not_eq_true', Bool.not_eq_false', Bool.not_eq_true, Bool.not_eq_false, Bool.and_eq_true, Bool.or_eq_true, Bool.and_eq_false_iff, Bool.or_eq_false_iff, Bool.not_not, ne_eq, Int.not_lt, Int.not_le, Decidable.not_not, beq_iff_eq, bne_iff_ne] at hc1
            rw [nhS_2 (s := s) (x := x) hc1] at hl
            refine i_skip ?_
            refine then_normal ?_
            refine i_seq ?_
            refine i_region ?_
            refine wli nofun (fun _ _ h => h) (wl_val hl rfl trivial (r_move hl rfl) ?_)
            clear hl a; intro a hl
            refine wli nofun (fun _ _ h => h) (wl_val hl rfl trivial (r_field hl rfl fld93_1) ?_)
            clear hl a; intro a hl
            first | refine wli nofun (fun _ _ h => h) (w_load hl hh rfl trivial one29 rfl (by repeat (first | exact find_head | apply find_tail)) (by first | rfl) ?_) | refine wli nofun (fun _ _ h => h) (w_loadR hl hh rfl trivial one29 rfl hm (by simp) rfl ?_) | refine wli nofun (fun _ _ h => h) (w_loadR hl hh rfl trivial one29 rfl hm9 hcD9 rfl ?_)
            clear hl a; intro a hl
            refine wli nofun (fun _ _ h => h) (w_call hl hh rfl trivial rfl cal39 rfl (less_spec _ _) (by repeat (first | exact keeps_nil | apply keeps_cons (by repeat (first | exact find_head | apply find_tail)) (by first  | rfl) | exact keeps_self | exact keeps_left | exact keeps_right | exact keeps_swap | apply keeps_mv)) trivial ?_)
            clear hl hh a w; intro vc Fc a w hR hl hh
            obtain ⟨rfl, rfl⟩ := hR
            try simp only [List.cons_append, List.nil_append] at hh
            refine wi_nil ?_
            have hl2 := hl.add (t := 2) (hl.add (t := 4) (hl.add (t := 5) (hl.add (t := 6) (hl.add (t := 7) (hl.add (t := 38) (hl.nil) rfl) rfl) rfl) rfl) rfl) rfl; clear hl; have hl := hl2; clear hl2
            refine then_normal ?_
            refine i_cond hl rfl ?_ ?_
            · intro hc2
              try simp only [decide_eq_true_eq, decide_eq_false_iff_not, Bool.not_eq_true', Bool.not_eq_false', Bool.not_eq_true, Bool.not_eq_false, Bool.and_eq_true, Bool.or_eq_true, Bool.and_eq_false_iff, Bool.or_eq_false_iff, Bool.not_not, ne_eq, Int.not_lt, Int.not_le, Decidable.not_not, beq_iff_eq, bne_iff_ne] at hc2
              refine i_seq ?_
              refine i_draw [(k2, C [.pointer (some ⟨cp, 0, none⟩)] 24), (k6, C [.int .u32 x.s, .int .u32 x.e, .bool x.lost, .bool x.tail] 93), (cp, C (encC s sp) 66)] [10, 11, 12] mixed (by kernel_rfl) (fun _ _ h => h) hh ?_
              clear hh w; intro w hh
              have hM : Mem [(k2, C [.pointer (some ⟨cp, 0, none⟩)] 24), (k6, C [.int .u32 x.s, .int .u32 x.e, .bool x.lost, .bool x.tail] 93), (cp, C (encC s sp) 66)] w := (Mem.cons hh.mem (by repeat (first | exact find_head | apply find_tail)) (Mem.cons hh.mem (by repeat (first | exact find_head | apply find_tail)) (Mem.consR hh hm9 hcD9 Mem.nil)))
              refine d_take (i := 0) hl rfl (by kernel_rfl) (by kernel_rfl) (by kernel_rfl) (by kernel_rfl) (by kernel_rfl) rfl trivial (fun _ _ _ h => h) hM (fun w hC => r_move hl rfl) rfl ?_
              clear hl a; intro a hl
              refine d_take (i := 1) hl rfl (by kernel_rfl) (by kernel_rfl) (by kernel_rfl) (by kernel_rfl) (by kernel_rfl) rfl trivial (fun _ _ _ h => h) hM (fun w hC => r_loadC hl rfl one24 hC (by repeat (first | exact find_head | apply find_tail)) (by first | rfl)) rfl ?_
              clear hl a; intro a hl
              refine d_take (i := 2) hl rfl (by kernel_rfl) (by kernel_rfl) (by kernel_rfl) (by kernel_rfl) (by kernel_rfl) rfl trivial (fun _ _ _ h => h) hM (fun w hC => r_nilCheck hl rfl) rfl ?_
              clear hl a; intro a hl
              refine d_take (i := 3) hl rfl (by kernel_rfl) (by kernel_rfl) (by kernel_rfl) (by kernel_rfl) (by kernel_rfl) rfl trivial (fun _ _ _ h => h) hM (fun w hC => r_field hl rfl fld66_1) rfl ?_
              clear hl a; intro a hl
              refine d_take (i := 4) hl rfl (by kernel_rfl) (by kernel_rfl) (by kernel_rfl) (by kernel_rfl) (by kernel_rfl) rfl trivial (fun _ _ _ h => h) hM (fun w hC => r_loadC hl rfl one29 hC (by repeat (first | exact find_head | apply find_tail)) (by first | rfl)) rfl ?_
              clear hl a; intro a hl
              refine d_take (i := 5) hl rfl (by kernel_rfl) (by kernel_rfl) (by kernel_rfl) (by kernel_rfl) (by kernel_rfl) rfl trivial (fun _ _ _ h => h) hM (fun w hC => r_field hl rfl fld93_1) rfl ?_
              clear hl a; intro a hl
              refine d_take (i := 6) hl rfl (by kernel_rfl) (by kernel_rfl) (by kernel_rfl) (by kernel_rfl) (by kernel_rfl) rfl trivial (fun _ _ _ h => h) hM (fun w hC => r_loadC hl rfl one29 hC (by repeat (first | exact find_head | apply find_tail)) (by first | rfl)) rfl ?_
              clear hl a; intro a hl
              refine d_take (i := 7) hl rfl (by kernel_rfl) (by kernel_rfl) (by kernel_rfl) (by kernel_rfl) (by kernel_rfl) rfl trivial (fun _ _ _ h => h) hM (fun w hC => r_move hl rfl) rfl ?_
              clear hl a; intro a hl
              refine d_take (i := 8) hl rfl (by kernel_rfl) (by kernel_rfl) (by kernel_rfl) (by kernel_rfl) (by kernel_rfl) rfl trivial (fun _ _ _ h => h) hM (fun w hC => r_subM wm_u32 hl rfl rfl) rfl ?_
              clear hl a; intro a hl
              refine d_take (i := 9) hl rfl (by kernel_rfl) (by kernel_rfl) (by kernel_rfl) (by kernel_rfl) (by kernel_rfl) rfl trivial (fun _ _ _ h => h) hM (fun w hC => r_minI hl rfl rfl) rfl ?_
              clear hl a; intro a hl
              refine d_takeL (i := 10) hl rfl (by kernel_rfl) (by kernel_rfl) (by kernel_rfl) (by kernel_rfl) (by kernel_rfl) rfl trivial (fun _ _ _ h => h) (fun w => r_build hl rfl zero40 bld40 (by simp only [fillL, setL, List.getElem?_cons_zero, List.getElem?_cons_succ, Value.cells, List.take_zero, List.take_succ_cons, List.take_nil, List.drop_zero, List.drop_succ_cons, List.drop_nil, List.length_cons, List.length_nil, List.cons_append, List.nil_append, List.append_nil, Nat.zero_add, Nat.add_zero, Nat.reduceAdd, Nat.reduceBEq, Nat.reduceEqDiff, Nat.ble, BEq.rfl, Bool.and_true, Bool.and_self, cond_true, beq_self_eq_true]; rfl)) rfl ?_
              clear hl a; intro a hl
              refine d_one (i := 11) (by kernel_rfl) rfl ?_
              try clear hM
              refine id (w_storeA hl hh trivial agg40 rfl rfl (by repeat (first | exact find_head | apply find_tail)) (by first | rfl | (simp; done)) (by first | (simp; done) | (simp; omega)) (by first | rfl | (simp; done)) (by first | (simp only [encC, setL, List.getElem?_cons_zero, List.getElem?_cons_succ, Value.cells, List.take_zero, List.take_succ_cons, List.take_nil, List.drop_zero, List.drop_succ_cons, List.drop_nil, List.length_cons, List.length_nil, List.cons_append, List.nil_append, List.append_nil, Nat.zero_add, Nat.add_zero, Nat.reduceAdd, Nat.reduceBEq, Nat.reduceEqDiff, Nat.ble, BEq.rfl, Bool.and_true, Bool.and_self, cond_true, beq_self_eq_true]; rfl) | (simp only [setL, List.getElem?_cons_zero, List.getElem?_cons_succ, Value.cells, List.take_zero, List.take_succ_cons, List.take_nil, List.drop_zero, List.drop_succ_cons, List.drop_nil, List.length_cons, List.length_nil, List.cons_append, List.nil_append, List.append_nil, Nat.zero_add, Nat.add_zero, Nat.reduceAdd, Nat.reduceBEq, Nat.reduceEqDiff, Nat.ble, BEq.rfl, Bool.and_true, Bool.and_self, cond_true, beq_self_eq_true]; rfl)) ?_)
              clear hh w; intro w hh
              refine d_step (fun h => absurd h (by decide)) ?_
              refine d_one (i := 12) (by kernel_rfl) rfl ?_
              try clear hM
              refine id (w_store hl hh trivial one4 rfl rfl (by repeat (first | exact find_head | apply find_tail)) (by first | (simp; done) | (simp; omega)) (by first | rfl | assumption | (apply Row.one; assumption)) (by first | (simp only [encC, setL, List.getElem?_cons_zero, List.getElem?_cons_succ, Value.cells, List.take_zero, List.take_succ_cons, List.take_nil, List.drop_zero, List.drop_succ_cons, List.drop_nil, List.length_cons, List.length_nil, List.cons_append, List.nil_append, List.append_nil, Nat.zero_add, Nat.add_zero, Nat.reduceAdd, Nat.reduceBEq, Nat.reduceEqDiff, Nat.ble, BEq.rfl, Bool.and_true, Bool.and_self, cond_true, beq_self_eq_true]; rfl) | (simp only [setL, List.getElem?_cons_zero, List.getElem?_cons_succ, Value.cells, List.take_zero, List.take_succ_cons, List.take_nil, List.drop_zero, List.drop_succ_cons, List.drop_nil, List.length_cons, List.length_nil, List.cons_append, List.nil_append, List.append_nil, Nat.zero_add, Nat.add_zero, Nat.reduceAdd, Nat.reduceBEq, Nat.reduceEqDiff, Nat.ble, BEq.rfl, Bool.and_true, Bool.and_self, cond_true, beq_self_eq_true]; rfl)) ?_)
              clear hh w; intro w hh
              refine d_step (fun h => absurd h (by decide)) ?_
              refine d_done (by kernel_rfl) ?_
              try clear hM
              have hl2 := hl.add (t := 4) (hl.add (t := 5) (hl.nil) rfl) rfl; clear hl; have hl := hl2; clear hl2
              refine then_normal ?_
              refine i_ret ?_
              refine blk_ret ?_
              have hsk : nhSkip lost x = false := by first | exact keep_1 (by assumption) (by assumption) | exact keep_2 (by assumption) (by assumption) (by assumption)
              have hso := nh_2 (s := s) (lost := lost) (x := x) hsk (by assumption)
              have hfs := (find_snoc (f := nhOk s lost) (x := x) hcp).trans hso
              refine ⟨[(k2, C [.pointer (some ⟨cp, 0, none⟩)] 24), (k3, C [.bool lost] 4), (k4, C (grc ⟨2, nhS s x, min s.mss ((x.e - nhS s x) % 4294967296)⟩) 40), (k5, C [.bool true] 4)], ⟨by rw [hfs]; rfl, by rw [hfs]; rfl⟩, hh.keep (by repeat (first | exact keeps_nil | apply keeps_cons (by repeat (first | exact find_head | apply find_tail)) (by first  | rfl) | exact keeps_self | exact keeps_left | exact keeps_right | exact keeps_swap | apply keeps_mv))⟩
            · intro hc2
              try simp only [decide_eq_true_eq, decide_eq_false_iff_not, Bool.not_eq_true', Bool.not_eq_false', Bool.not_eq_true, Bool.not_eq_false, Bool.and_eq_true, Bool.or_eq_true, Bool.and_eq_false_iff, Bool.or_eq_false_iff, Bool.not_not, ne_eq, Int.not_lt, Int.not_le, Decidable.not_not, beq_iff_eq, bne_iff_ne] at hc2
              refine i_skip ?_
              refine blk_normal ?_
              have hno : nhOk s lost x = none := by first | exact nh_1 (skip_1 (by assumption)) | exact nh_1 (skip_2 (by assumption) (by assumption) (by assumption)) | exact nh_3 (by assumption)
              refine ⟨[(k2, C [.pointer (some ⟨cp, 0, none⟩)] 24), (k3, C [.bool lost] 4), (k4, C [.int .u8 0, .int .u32 0, .int .u32 0] 40), (k5, C [.bool false] 4)], ⟨(find_snoc hcp).trans hno, rfl⟩, hh.keep (by repeat (first | exact keeps_nil | apply keeps_cons (by repeat (first | exact find_head | apply find_tail)) (by first  | rfl) | exact keeps_self | exact keeps_left | exact keeps_right | exact keeps_swap | apply keeps_mv))⟩
      · intro hg2; clear hl; intro hl
        try simp only [decide_eq_true_eq, decide_eq_false_iff_not, Bool.not_eq_true', Bool.not_eq_false', Bool.not_eq_true, Bool.not_eq_false, Bool.and_eq_true, Bool.or_eq_true, Bool.and_eq_false_iff, Bool.or_eq_false_iff, Bool.not_not, ne_eq, Int.not_lt, Int.not_le, Decidable.not_not, beq_iff_eq, bne_iff_ne] at hg2
        refine wli nofun (fun _ _ h => h) (wl_skip hl rfl ⟨_, _, rfl, rfl, rfl⟩ ?_)
        clear hl a; intro a hl
        refine wli nofun (fun _ _ h => h) (wl_skip hl rfl ⟨_, _, rfl, rfl, rfl⟩ ?_)
        clear hl a; intro a hl
        refine wli nofun (fun _ _ h => h) (wl_val hl rfl ⟨_, _, rfl, rfl, rfl⟩ (r_pickF hl rfl rfl) ?_)
        clear hl a; intro a hl
        refine wli nofun (fun _ _ h => h) (wl_val hl rfl trivial (r_pickF hl rfl rfl) ?_)
        clear hl a; intro a hl
        refine wi_nil ?_
        have hl2 := hl.add (t := 2) (hl.add (t := 4) (hl.add (t := 5) (hl.add (t := 6) (hl.add (t := 22) (hl.nil) rfl) rfl) rfl) rfl) rfl; clear hl; have hl := hl2; clear hl2
        refine then_normal ?_
        refine i_condF hl rfl ?_
        refine i_skip ?_
        refine then_normal ?_
        refine i_seq ?_
        refine i_region ?_
        refine wli nofun (fun _ _ h => h) (wl_val hl rfl trivial (r_field hl rfl fld93_0) ?_)
        clear hl a; intro a hl
        first | refine wli nofun (fun _ _ h => h) (w_load hl hh rfl trivial one29 rfl (by repeat (first | exact find_head | apply find_tail)) (by first | rfl) ?_) | refine wli nofun (fun _ _ h => h) (w_loadR hl hh rfl trivial one29 rfl hm (by simp) rfl ?_) | refine wli nofun (fun _ _ h => h) (w_loadR hl hh rfl trivial one29 rfl hm9 hcD9 rfl ?_)
        clear hl a; intro a hl
        refine wli nofun (fun _ _ h => h) (wl_val hl rfl trivial (r_assign hl rfl) ?_)
        clear hl a; intro a hl
        refine wi_nil ?_
        have hl2 := hl.add (t := 2) (hl.add (t := 4) (hl.add (t := 5) (hl.add (t := 6) (hl.add (t := 7) (hl.nil) rfl) rfl) rfl) rfl) rfl; clear hl; have hl := hl2; clear hl2
        refine then_normal ?_
        refine i_seq ?_
        refine i_seq ?_
        refine i_region ?_
        refine wli nofun (fun _ _ h => h) (wl_val hl rfl trivial (r_move hl rfl) ?_)
        clear hl a; intro a hl
        first | refine wli nofun (fun _ _ h => h) (w_load hl hh rfl trivial one24 rfl (by repeat (first | exact find_head | apply find_tail)) (by first | rfl) ?_) | refine wli nofun (fun _ _ h => h) (w_loadR hl hh rfl trivial one24 rfl hm (by simp) rfl ?_) | refine wli nofun (fun _ _ h => h) (w_loadR hl hh rfl trivial one24 rfl hm9 hcD9 rfl ?_)
        clear hl a; intro a hl
        refine wli nofun (fun _ _ h => h) (wl_val hl rfl trivial (r_nilCheck hl rfl) ?_)
        clear hl a; intro a hl
        refine wli nofun (fun _ _ h => h) (wl_val hl rfl trivial (r_field hl rfl fld66_10) ?_)
        clear hl a; intro a hl
        first | refine wli nofun (fun _ _ h => h) (w_load hl hh rfl trivial one29 rfl (by repeat (first | exact find_head | apply find_tail)) (by first | rfl) ?_) | refine wli nofun (fun _ _ h => h) (w_loadR hl hh rfl trivial one29 rfl hm (by simp) rfl ?_) | refine wli nofun (fun _ _ h => h) (w_loadR hl hh rfl trivial one29 rfl hm9 hcD9 rfl ?_)
        clear hl a; intro a hl
        refine wli nofun (fun _ _ h => h) (w_call hl hh rfl trivial rfl cal39 rfl (less_spec _ _) (by repeat (first | exact keeps_nil | apply keeps_cons (by repeat (first | exact find_head | apply find_tail)) (by first  | rfl) | exact keeps_self | exact keeps_left | exact keeps_right | exact keeps_swap | apply keeps_mv)) trivial ?_)
        clear hl hh a w; intro vc Fc a w hR hl hh
        obtain ⟨rfl, rfl⟩ := hR
        try simp only [List.cons_append, List.nil_append] at hh
        refine wi_nil ?_
        have hl2 := hl.add (t := 2) (hl.add (t := 4) (hl.add (t := 5) (hl.add (t := 6) (hl.add (t := 7) (hl.add (t := 30) (hl.nil) rfl) rfl) rfl) rfl) rfl) rfl; clear hl; have hl := hl2; clear hl2
        refine then_normal ?_
        refine i_cond hl rfl ?_ ?_
        · intro hc1
          try simp only [decide_eq_true_eq, decide_eq_false_iff_not, Bool.not_eq_true', Bool.not_eq_false', Bool.not_eq_true, Bool.not_eq_false, Bool.and_eq_true, Bool.or_eq_true, Bool.and_eq_false_iff, Bool.or_eq_false_iff, Bool.not_not, ne_eq, Int.not_lt, Int.not_le, Decidable.not_not, beq_iff_eq, bne_iff_ne] at hc1
          refine i_region ?_
          first | refine wli nofun (fun _ _ h => h) (w_load hl hh rfl trivial one24 rfl (by repeat (first | exact find_head | apply find_tail)) (by first | rfl) ?_) | refine wli nofun (fun _ _ h => h) (w_loadR hl hh rfl trivial one24 rfl hm (by simp) rfl ?_) | refine wli nofun (fun _ _ h => h) (w_loadR hl hh rfl trivial one24 rfl hm9 hcD9 rfl ?_)
          clear hl a; intro a hl
          refine wli nofun (fun _ _ h => h) (wl_val hl rfl trivial (r_nilCheck hl rfl) ?_)
          clear hl a; intro a hl
          refine wli nofun (fun _ _ h => h) (wl_val hl rfl trivial (r_field hl rfl fld66_10) ?_)
          clear hl a; intro a hl
          first | refine wli nofun (fun _ _ h => h) (w_load hl hh rfl trivial one29 rfl (by repeat (first | exact find_head | apply find_tail)) (by first | rfl) ?_) | refine wli nofun (fun _ _ h => h) (w_loadR hl hh rfl trivial one29 rfl hm (by simp) rfl ?_) | refine wli nofun (fun _ _ h => h) (w_loadR hl hh rfl trivial one29 rfl hm9 hcD9 rfl ?_)
          clear hl a; intro a hl
          refine wli nofun (fun _ _ h => h) (wl_val hl rfl trivial (r_assign hl rfl) ?_)
          clear hl a; intro a hl
          refine wi_nil ?_
          have hl2 := hl.add (t := 2) (hl.add (t := 4) (hl.add (t := 5) (hl.add (t := 6) (hl.add (t := 7) (hl.nil) rfl) rfl) rfl) rfl) rfl; clear hl; have hl := hl2; clear hl2
          rw [nhS_1 (s := s) (x := x) hc1] at hl
          refine then_normal ?_
          refine i_seq ?_
          refine i_region ?_
          refine wli nofun (fun _ _ h => h) (wl_val hl rfl trivial (r_move hl rfl) ?_)
          clear hl a; intro a hl
          refine wli nofun (fun _ _ h => h) (wl_val hl rfl trivial (r_field hl rfl fld93_1) ?_)
          clear hl a; intro a hl
          first | refine wli nofun (fun _ _ h => h) (w_load hl hh rfl trivial one29 rfl (by repeat (first | exact find_head | apply find_tail)) (by first | rfl) ?_) | refine wli nofun (fun _ _ h => h) (w_loadR hl hh rfl trivial one29 rfl hm (by simp) rfl ?_) | refine wli nofun (fun _ _ h => h) (w_loadR hl hh rfl trivial one29 rfl hm9 hcD9 rfl ?_)
          clear hl a; intro a hl
          refine wli nofun (fun _ _ h => h) (w_call hl hh rfl trivial rfl cal39 rfl (less_spec _ _) (by repeat (first | exact keeps_nil | apply keeps_cons (by repeat (first | exact find_head | apply find_tail)) (by first  | rfl) | exact keeps_self | exact keeps_left | exact keeps_right | exact keeps_swap | apply keeps_mv)) trivial ?_)
          clear hl hh a w; intro vc Fc a w hR hl hh
          obtain ⟨rfl, rfl⟩ := hR
          try simp only [List.cons_append, List.nil_append] at hh
          refine wi_nil ?_
          have hl2 := hl.add (t := 2) (hl.add (t := 4) (hl.add (t := 5) (hl.add (t := 6) (hl.add (t := 7) (hl.add (t := 38) (hl.nil) rfl) rfl) rfl) rfl) rfl) rfl; clear hl; have hl := hl2; clear hl2
          refine then_normal ?_
          refine i_cond hl rfl ?_ ?_
          · intro hc2
            try simp only [decide_eq_true_eq, decide_eq_false_iff_not, Bool.not_eq_true', Bool.not_eq_false', Bool.not_eq_true, Bool.not_eq_false, Bool.and_eq_true, Bool.or_eq_true, Bool.and_eq_false_iff, Bool.or_eq_false_iff, Bool.not_not, ne_eq, Int.not_lt, Int.not_le, Decidable.not_not, beq_iff_eq, bne_iff_ne] at hc2
            refine i_seq ?_
            refine i_draw [(k2, C [.pointer (some ⟨cp, 0, none⟩)] 24), (k6, C [.int .u32 x.s, .int .u32 x.e, .bool x.lost, .bool x.tail] 93), (cp, C (encC s sp) 66)] [10, 11, 12] mixed (by kernel_rfl) (fun _ _ h => h) hh ?_
            clear hh w; intro w hh
            have hM : Mem [(k2, C [.pointer (some ⟨cp, 0, none⟩)] 24), (k6, C [.int .u32 x.s, .int .u32 x.e, .bool x.lost, .bool x.tail] 93), (cp, C (encC s sp) 66)] w := (Mem.cons hh.mem (by repeat (first | exact find_head | apply find_tail)) (Mem.cons hh.mem (by repeat (first | exact find_head | apply find_tail)) (Mem.consR hh hm9 hcD9 Mem.nil)))
            refine d_take (i := 0) hl rfl (by kernel_rfl) (by kernel_rfl) (by kernel_rfl) (by kernel_rfl) (by kernel_rfl) rfl trivial (fun _ _ _ h => h) hM (fun w hC => r_move hl rfl) rfl ?_
            clear hl a; intro a hl
            refine d_take (i := 1) hl rfl (by kernel_rfl) (by kernel_rfl) (by kernel_rfl) (by kernel_rfl) (by kernel_rfl) rfl trivial (fun _ _ _ h => h) hM (fun w hC => r_loadC hl rfl one24 hC (by repeat (first | exact find_head | apply find_tail)) (by first | rfl)) rfl ?_
            clear hl a; intro a hl
            refine d_take (i := 2) hl rfl (by kernel_rfl) (by kernel_rfl) (by kernel_rfl) (by kernel_rfl) (by kernel_rfl) rfl trivial (fun _ _ _ h => h) hM (fun w hC => r_nilCheck hl rfl) rfl ?_
            clear hl a; intro a hl
            refine d_take (i := 3) hl rfl (by kernel_rfl) (by kernel_rfl) (by kernel_rfl) (by kernel_rfl) (by kernel_rfl) rfl trivial (fun _ _ _ h => h) hM (fun w hC => r_field hl rfl fld66_1) rfl ?_
            clear hl a; intro a hl
            refine d_take (i := 4) hl rfl (by kernel_rfl) (by kernel_rfl) (by kernel_rfl) (by kernel_rfl) (by kernel_rfl) rfl trivial (fun _ _ _ h => h) hM (fun w hC => r_loadC hl rfl one29 hC (by repeat (first | exact find_head | apply find_tail)) (by first | rfl)) rfl ?_
            clear hl a; intro a hl
            refine d_take (i := 5) hl rfl (by kernel_rfl) (by kernel_rfl) (by kernel_rfl) (by kernel_rfl) (by kernel_rfl) rfl trivial (fun _ _ _ h => h) hM (fun w hC => r_field hl rfl fld93_1) rfl ?_
            clear hl a; intro a hl
            refine d_take (i := 6) hl rfl (by kernel_rfl) (by kernel_rfl) (by kernel_rfl) (by kernel_rfl) (by kernel_rfl) rfl trivial (fun _ _ _ h => h) hM (fun w hC => r_loadC hl rfl one29 hC (by repeat (first | exact find_head | apply find_tail)) (by first | rfl)) rfl ?_
            clear hl a; intro a hl
            refine d_take (i := 7) hl rfl (by kernel_rfl) (by kernel_rfl) (by kernel_rfl) (by kernel_rfl) (by kernel_rfl) rfl trivial (fun _ _ _ h => h) hM (fun w hC => r_move hl rfl) rfl ?_
            clear hl a; intro a hl
            refine d_take (i := 8) hl rfl (by kernel_rfl) (by kernel_rfl) (by kernel_rfl) (by kernel_rfl) (by kernel_rfl) rfl trivial (fun _ _ _ h => h) hM (fun w hC => r_subM wm_u32 hl rfl rfl) rfl ?_
            clear hl a; intro a hl
            refine d_take (i := 9) hl rfl (by kernel_rfl) (by kernel_rfl) (by kernel_rfl) (by kernel_rfl) (by kernel_rfl) rfl trivial (fun _ _ _ h => h) hM (fun w hC => r_minI hl rfl rfl) rfl ?_
            clear hl a; intro a hl
            refine d_takeL (i := 10) hl rfl (by kernel_rfl) (by kernel_rfl) (by kernel_rfl) (by kernel_rfl) (by kernel_rfl) rfl trivial (fun _ _ _ h => h) (fun w => r_build hl rfl zero40 bld40 (by simp only [fillL, setL, List.getElem?_cons_zero, List.getElem?_cons_succ, Value.cells, List.take_zero, List.take_succ_cons, List.take_nil, List.drop_zero, List.drop_succ_cons, List.drop_nil, List.length_cons, List.length_nil, List.cons_append, List.nil_append, List.append_nil, Nat.zero_add, Nat.add_zero, Nat.reduceAdd, Nat.reduceBEq, Nat.reduceEqDiff, Nat.ble, BEq.rfl, Bool.and_true, Bool.and_self, cond_true, beq_self_eq_true]; rfl)) rfl ?_
            clear hl a; intro a hl
            refine d_one (i := 11) (by kernel_rfl) rfl ?_
            try clear hM
            refine id (w_storeA hl hh trivial agg40 rfl rfl (by repeat (first | exact find_head | apply find_tail)) (by first | rfl | (simp; done)) (by first | (simp; done) | (simp; omega)) (by first | rfl | (simp; done)) (by first | (simp only [encC, setL, List.getElem?_cons_zero, List.getElem?_cons_succ, Value.cells, List.take_zero, List.take_succ_cons, List.take_nil, List.drop_zero, List.drop_succ_cons, List.drop_nil, List.length_cons, List.length_nil, List.cons_append, List.nil_append, List.append_nil, Nat.zero_add, Nat.add_zero, Nat.reduceAdd, Nat.reduceBEq, Nat.reduceEqDiff, Nat.ble, BEq.rfl, Bool.and_true, Bool.and_self, cond_true, beq_self_eq_true]; rfl) | (simp only [setL, List.getElem?_cons_zero, List.getElem?_cons_succ, Value.cells, List.take_zero, List.take_succ_cons, List.take_nil, List.drop_zero, List.drop_succ_cons, List.drop_nil, List.length_cons, List.length_nil, List.cons_append, List.nil_append, List.append_nil, Nat.zero_add, Nat.add_zero, Nat.reduceAdd, Nat.reduceBEq, Nat.reduceEqDiff, Nat.ble, BEq.rfl, Bool.and_true, Bool.and_self, cond_true, beq_self_eq_true]; rfl)) ?_)
            clear hh w; intro w hh
            refine d_step (fun h => absurd h (by decide)) ?_
            refine d_one (i := 12) (by kernel_rfl) rfl ?_
            try clear hM
            refine id (w_store hl hh trivial one4 rfl rfl (by repeat (first | exact find_head | apply find_tail)) (by first | (simp; done) | (simp; omega)) (by first | rfl | assumption | (apply Row.one; assumption)) (by first | (simp only [encC, setL, List.getElem?_cons_zero, List.getElem?_cons_succ, Value.cells, List.take_zero, List.take_succ_cons, List.take_nil, List.drop_zero, List.drop_succ_cons, List.drop_nil, List.length_cons, List.length_nil, List.cons_append, List.nil_append, List.append_nil, Nat.zero_add, Nat.add_zero, Nat.reduceAdd, Nat.reduceBEq, Nat.reduceEqDiff, Nat.ble, BEq.rfl, Bool.and_true, Bool.and_self, cond_true, beq_self_eq_true]; rfl) | (simp only [setL, List.getElem?_cons_zero, List.getElem?_cons_succ, Value.cells, List.take_zero, List.take_succ_cons, List.take_nil, List.drop_zero, List.drop_succ_cons, List.drop_nil, List.length_cons, List.length_nil, List.cons_append, List.nil_append, List.append_nil, Nat.zero_add, Nat.add_zero, Nat.reduceAdd, Nat.reduceBEq, Nat.reduceEqDiff, Nat.ble, BEq.rfl, Bool.and_true, Bool.and_self, cond_true, beq_self_eq_true]; rfl)) ?_)
            clear hh w; intro w hh
            refine d_step (fun h => absurd h (by decide)) ?_
            refine d_done (by kernel_rfl) ?_
            try clear hM
            have hl2 := hl.add (t := 4) (hl.add (t := 5) (hl.nil) rfl) rfl; clear hl; have hl := hl2; clear hl2
            refine then_normal ?_
            refine i_ret ?_
            refine blk_ret ?_
            have hsk : nhSkip lost x = false := by first | exact keep_1 (by assumption) (by assumption) | exact keep_2 (by assumption) (by assumption) (by assumption)
            have hso := nh_2 (s := s) (lost := lost) (x := x) hsk (by assumption)
            have hfs := (find_snoc (f := nhOk s lost) (x := x) hcp).trans hso
            refine ⟨[(k2, C [.pointer (some ⟨cp, 0, none⟩)] 24), (k3, C [.bool lost] 4), (k4, C (grc ⟨2, nhS s x, min s.mss ((x.e - nhS s x) % 4294967296)⟩) 40), (k5, C [.bool true] 4)], ⟨by rw [hfs]; rfl, by rw [hfs]; rfl⟩, hh.keep (by repeat (first | exact keeps_nil | apply keeps_cons (by repeat (first | exact find_head | apply find_tail)) (by first  | rfl) | exact keeps_self | exact keeps_left | exact keeps_right | exact keeps_swap | apply keeps_mv))⟩
          · intro hc2
            try simp only [decide_eq_true_eq, decide_eq_false_iff_not, Bool.not_eq_true', Bool.not_eq_false', Bool.not_eq_true, Bool.not_eq_false, Bool.and_eq_true, Bool.or_eq_true, Bool.and_eq_false_iff, Bool.or_eq_false_iff, Bool.not_not, ne_eq, Int.not_lt, Int.not_le, Decidable.not_not, beq_iff_eq, bne_iff_ne] at hc2
            refine i_skip ?_
            refine blk_normal ?_
            have hno : nhOk s lost x = none := by first | exact nh_1 (skip_1 (by assumption)) | exact nh_1 (skip_2 (by assumption) (by assumption) (by assumption)) | exact nh_3 (by assumption)
            refine ⟨[(k2, C [.pointer (some ⟨cp, 0, none⟩)] 24), (k3, C [.bool lost] 4), (k4, C [.int .u8 0, .int .u32 0, .int .u32 0] 40), (k5, C [.bool false] 4)], ⟨(find_snoc hcp).trans hno, rfl⟩, hh.keep (by repeat (first | exact keeps_nil | apply keeps_cons (by repeat (first | exact find_head | apply find_tail)) (by first  | rfl) | exact keeps_self | exact keeps_left | exact keeps_right | exact keeps_swap | apply keeps_mv))⟩
        · intro hc1
          try simp only [decide_eq_true_eq, decide_eq_false_iff_not, Bool.not_eq_true', Bool.not_eq_false', Bool.not_eq_true, Bool.not_eq_false, Bool.and_eq_true, Bool.or_eq_true, Bool.and_eq_false_iff, Bool.or_eq_false_iff, Bool.not_not, ne_eq, Int.not_lt, Int.not_le, Decidable.not_not, beq_iff_eq, bne_iff_ne] at hc1
          rw [nhS_2 (s := s) (x := x) hc1] at hl
          refine i_skip ?_
          refine then_normal ?_
          refine i_seq ?_
          refine i_region ?_
          refine wli nofun (fun _ _ h => h) (wl_val hl rfl trivial (r_move hl rfl) ?_)
          clear hl a; intro a hl
          refine wli nofun (fun _ _ h => h) (wl_val hl rfl trivial (r_field hl rfl fld93_1) ?_)
          clear hl a; intro a hl
          first | refine wli nofun (fun _ _ h => h) (w_load hl hh rfl trivial one29 rfl (by repeat (first | exact find_head | apply find_tail)) (by first | rfl) ?_) | refine wli nofun (fun _ _ h => h) (w_loadR hl hh rfl trivial one29 rfl hm (by simp) rfl ?_) | refine wli nofun (fun _ _ h => h) (w_loadR hl hh rfl trivial one29 rfl hm9 hcD9 rfl ?_)
          clear hl a; intro a hl
          refine wli nofun (fun _ _ h => h) (w_call hl hh rfl trivial rfl cal39 rfl (less_spec _ _) (by repeat (first | exact keeps_nil | apply keeps_cons (by repeat (first | exact find_head | apply find_tail)) (by first  | rfl) | exact keeps_self | exact keeps_left | exact keeps_right | exact keeps_swap | apply keeps_mv)) trivial ?_)
          clear hl hh a w; intro vc Fc a w hR hl hh
          obtain ⟨rfl, rfl⟩ := hR
          try simp only [List.cons_append, List.nil_append] at hh
          refine wi_nil ?_
          have hl2 := hl.add (t := 2) (hl.add (t := 4) (hl.add (t := 5) (hl.add (t := 6) (hl.add (t := 7) (hl.add (t := 38) (hl.nil) rfl) rfl) rfl) rfl) rfl) rfl; clear hl; have hl := hl2; clear hl2
          refine then_normal ?_
          refine i_cond hl rfl ?_ ?_
          · intro hc2
            try simp only [decide_eq_true_eq, decide_eq_false_iff_not, Bool.not_eq_true', Bool.not_eq_false', Bool.not_eq_true, Bool.not_eq_false, Bool.and_eq_true, Bool.or_eq_true, Bool.and_eq_false_iff, Bool.or_eq_false_iff, Bool.not_not, ne_eq, Int.not_lt, Int.not_le, Decidable.not_not, beq_iff_eq, bne_iff_ne] at hc2
            refine i_seq ?_
            refine i_draw [(k2, C [.pointer (some ⟨cp, 0, none⟩)] 24), (k6, C [.int .u32 x.s, .int .u32 x.e, .bool x.lost, .bool x.tail] 93), (cp, C (encC s sp) 66)] [10, 11, 12] mixed (by kernel_rfl) (fun _ _ h => h) hh ?_
            clear hh w; intro w hh
            have hM : Mem [(k2, C [.pointer (some ⟨cp, 0, none⟩)] 24), (k6, C [.int .u32 x.s, .int .u32 x.e, .bool x.lost, .bool x.tail] 93), (cp, C (encC s sp) 66)] w := (Mem.cons hh.mem (by repeat (first | exact find_head | apply find_tail)) (Mem.cons hh.mem (by repeat (first | exact find_head | apply find_tail)) (Mem.consR hh hm9 hcD9 Mem.nil)))
            refine d_take (i := 0) hl rfl (by kernel_rfl) (by kernel_rfl) (by kernel_rfl) (by kernel_rfl) (by kernel_rfl) rfl trivial (fun _ _ _ h => h) hM (fun w hC => r_move hl rfl) rfl ?_
            clear hl a; intro a hl
            refine d_take (i := 1) hl rfl (by kernel_rfl) (by kernel_rfl) (by kernel_rfl) (by kernel_rfl) (by kernel_rfl) rfl trivial (fun _ _ _ h => h) hM (fun w hC => r_loadC hl rfl one24 hC (by repeat (first | exact find_head | apply find_tail)) (by first | rfl)) rfl ?_
            clear hl a; intro a hl
            refine d_take (i := 2) hl rfl (by kernel_rfl) (by kernel_rfl) (by kernel_rfl) (by kernel_rfl) (by kernel_rfl) rfl trivial (fun _ _ _ h => h) hM (fun w hC => r_nilCheck hl rfl) rfl ?_
            clear hl a; intro a hl
            refine d_take (i := 3) hl rfl (by kernel_rfl) (by kernel_rfl) (by kernel_rfl) (by kernel_rfl) (by kernel_rfl) rfl trivial (fun _ _ _ h => h) hM (fun w hC => r_field hl rfl fld66_1) rfl ?_
            clear hl a; intro a hl
            refine d_take (i := 4) hl rfl (by kernel_rfl) (by kernel_rfl) (by kernel_rfl) (by kernel_rfl) (by kernel_rfl) rfl trivial (fun _ _ _ h => h) hM (fun w hC => r_loadC hl rfl one29 hC (by repeat (first | exact find_head | apply find_tail)) (by first | rfl)) rfl ?_
            clear hl a; intro a hl
            refine d_take (i := 5) hl rfl (by kernel_rfl) (by kernel_rfl) (by kernel_rfl) (by kernel_rfl) (by kernel_rfl) rfl trivial (fun _ _ _ h => h) hM (fun w hC => r_field hl rfl fld93_1) rfl ?_
            clear hl a; intro a hl
            refine d_take (i := 6) hl rfl (by kernel_rfl) (by kernel_rfl) (by kernel_rfl) (by kernel_rfl) (by kernel_rfl) rfl trivial (fun _ _ _ h => h) hM (fun w hC => r_loadC hl rfl one29 hC (by repeat (first | exact find_head | apply find_tail)) (by first | rfl)) rfl ?_
            clear hl a; intro a hl
            refine d_take (i := 7) hl rfl (by kernel_rfl) (by kernel_rfl) (by kernel_rfl) (by kernel_rfl) (by kernel_rfl) rfl trivial (fun _ _ _ h => h) hM (fun w hC => r_move hl rfl) rfl ?_
            clear hl a; intro a hl
            refine d_take (i := 8) hl rfl (by kernel_rfl) (by kernel_rfl) (by kernel_rfl) (by kernel_rfl) (by kernel_rfl) rfl trivial (fun _ _ _ h => h) hM (fun w hC => r_subM wm_u32 hl rfl rfl) rfl ?_
            clear hl a; intro a hl
            refine d_take (i := 9) hl rfl (by kernel_rfl) (by kernel_rfl) (by kernel_rfl) (by kernel_rfl) (by kernel_rfl) rfl trivial (fun _ _ _ h => h) hM (fun w hC => r_minI hl rfl rfl) rfl ?_
            clear hl a; intro a hl
            refine d_takeL (i := 10) hl rfl (by kernel_rfl) (by kernel_rfl) (by kernel_rfl) (by kernel_rfl) (by kernel_rfl) rfl trivial (fun _ _ _ h => h) (fun w => r_build hl rfl zero40 bld40 (by simp only [fillL, setL, List.getElem?_cons_zero, List.getElem?_cons_succ, Value.cells, List.take_zero, List.take_succ_cons, List.take_nil, List.drop_zero, List.drop_succ_cons, List.drop_nil, List.length_cons, List.length_nil, List.cons_append, List.nil_append, List.append_nil, Nat.zero_add, Nat.add_zero, Nat.reduceAdd, Nat.reduceBEq, Nat.reduceEqDiff, Nat.ble, BEq.rfl, Bool.and_true, Bool.and_self, cond_true, beq_self_eq_true]; rfl)) rfl ?_
            clear hl a; intro a hl
            refine d_one (i := 11) (by kernel_rfl) rfl ?_
            try clear hM
            refine id (w_storeA hl hh trivial agg40 rfl rfl (by repeat (first | exact find_head | apply find_tail)) (by first | rfl | (simp; done)) (by first | (simp; done) | (simp; omega)) (by first | rfl | (simp; done)) (by first | (simp only [encC, setL, List.getElem?_cons_zero, List.getElem?_cons_succ, Value.cells, List.take_zero, List.take_succ_cons, List.take_nil, List.drop_zero, List.drop_succ_cons, List.drop_nil, List.length_cons, List.length_nil, List.cons_append, List.nil_append, List.append_nil, Nat.zero_add, Nat.add_zero, Nat.reduceAdd, Nat.reduceBEq, Nat.reduceEqDiff, Nat.ble, BEq.rfl, Bool.and_true, Bool.and_self, cond_true, beq_self_eq_true]; rfl) | (simp only [setL, List.getElem?_cons_zero, List.getElem?_cons_succ, Value.cells, List.take_zero, List.take_succ_cons, List.take_nil, List.drop_zero, List.drop_succ_cons, List.drop_nil, List.length_cons, List.length_nil, List.cons_append, List.nil_append, List.append_nil, Nat.zero_add, Nat.add_zero, Nat.reduceAdd, Nat.reduceBEq, Nat.reduceEqDiff, Nat.ble, BEq.rfl, Bool.and_true, Bool.and_self, cond_true, beq_self_eq_true]; rfl)) ?_)
            clear hh w; intro w hh
            refine d_step (fun h => absurd h (by decide)) ?_
            refine d_one (i := 12) (by kernel_rfl) rfl ?_
            try clear hM
            refine id (w_store hl hh trivial one4 rfl rfl (by repeat (first | exact find_head | apply find_tail)) (by first | (simp; done) | (simp; omega)) (by first | rfl | assumption | (apply Row.one; assumption)) (by first | (simp only [encC, setL, List.getElem?_cons_zero, List.getElem?_cons_succ, Value.cells, List.take_zero, List.take_succ_cons, List.take_nil, List.drop_zero, List.drop_succ_cons, List.drop_nil, List.length_cons, List.length_nil, List.cons_append, List.nil_append, List.append_nil, Nat.zero_add, Nat.add_zero, Nat.reduceAdd, Nat.reduceBEq, Nat.reduceEqDiff, Nat.ble, BEq.rfl, Bool.and_true, Bool.and_self, cond_true, beq_self_eq_true]; rfl) | (simp only [setL, List.getElem?_cons_zero, List.getElem?_cons_succ, Value.cells, List.take_zero, List.take_succ_cons, List.take_nil, List.drop_zero, List.drop_succ_cons, List.drop_nil, List.length_cons, List.length_nil, List.cons_append, List.nil_append, List.append_nil, Nat.zero_add, Nat.add_zero, Nat.reduceAdd, Nat.reduceBEq, Nat.reduceEqDiff, Nat.ble, BEq.rfl, Bool.and_true, Bool.and_self, cond_true, beq_self_eq_true]; rfl)) ?_)
            clear hh w; intro w hh
            refine d_step (fun h => absurd h (by decide)) ?_
            refine d_done (by kernel_rfl) ?_
            try clear hM
            have hl2 := hl.add (t := 4) (hl.add (t := 5) (hl.nil) rfl) rfl; clear hl; have hl := hl2; clear hl2
            refine then_normal ?_
            refine i_ret ?_
            refine blk_ret ?_
            have hsk : nhSkip lost x = false := by first | exact keep_1 (by assumption) (by assumption) | exact keep_2 (by assumption) (by assumption) (by assumption)
            have hso := nh_2 (s := s) (lost := lost) (x := x) hsk (by assumption)
            have hfs := (find_snoc (f := nhOk s lost) (x := x) hcp).trans hso
            refine ⟨[(k2, C [.pointer (some ⟨cp, 0, none⟩)] 24), (k3, C [.bool lost] 4), (k4, C (grc ⟨2, nhS s x, min s.mss ((x.e - nhS s x) % 4294967296)⟩) 40), (k5, C [.bool true] 4)], ⟨by rw [hfs]; rfl, by rw [hfs]; rfl⟩, hh.keep (by repeat (first | exact keeps_nil | apply keeps_cons (by repeat (first | exact find_head | apply find_tail)) (by first  | rfl) | exact keeps_self | exact keeps_left | exact keeps_right | exact keeps_swap | apply keeps_mv))⟩
          · intro hc2
            try simp only [decide_eq_true_eq, decide_eq_false_iff_not, Bool.not_eq_true', Bool.not_eq_false', Bool.not_eq_true, Bool.not_eq_false, Bool.and_eq_true, Bool.or_eq_true, Bool.and_eq_false_iff, Bool.or_eq_false_iff, Bool.not_not, ne_eq, Int.not_lt, Int.not_le, Decidable.not_not, beq_iff_eq, bne_iff_ne] at hc2
            refine i_skip ?_
            refine blk_normal ?_
            have hno : nhOk s lost x = none := by first | exact nh_1 (skip_1 (by assumption)) | exact nh_1 (skip_2 (by assumption) (by assumption) (by assumption)) | exact nh_3 (by assumption)
            refine ⟨[(k2, C [.pointer (some ⟨cp, 0, none⟩)] 24), (k3, C [.bool lost] 4), (k4, C [.int .u8 0, .int .u32 0, .int .u32 0] 40), (k5, C [.bool false] 4)], ⟨(find_snoc hcp).trans hno, rfl⟩, hh.keep (by repeat (first | exact keeps_nil | apply keeps_cons (by repeat (first | exact find_head | apply find_tail)) (by first  | rfl) | exact keeps_self | exact keeps_left | exact keeps_right | exact keeps_swap | apply keeps_mv))⟩
  ·
    clear hl hh a w; intro dm a w hct hl hh
    simp only [List.cons_append, List.nil_append] at hh
    refine blk_normal ?_
    refine then_normal ?_
    refine i_seq ?_
    refine i_region ?_
    refine wli nofun (fun _ _ h => h) (wl_val hl rfl trivial (r_build hl rfl zero40 bld40 (by simp only [fillL, setL, List.getElem?_cons_zero, List.getElem?_cons_succ, Value.cells, List.take_zero, List.take_succ_cons, List.take_nil, List.drop_zero, List.drop_succ_cons, List.drop_nil, List.length_cons, List.length_nil, List.cons_append, List.nil_append, List.append_nil, Nat.zero_add, Nat.add_zero, Nat.reduceAdd, Nat.reduceBEq, Nat.reduceEqDiff, Nat.ble, BEq.rfl, Bool.and_true, Bool.and_self, cond_true, beq_self_eq_true]; rfl)) ?_)
    clear hl a; intro a hl
    refine wli nofun (fun _ _ h => h) (w_storeA hl hh trivial agg40 rfl rfl (by repeat (first | exact find_head | apply find_tail)) (by first | rfl | (simp; done)) (by first | (simp; done) | (simp; omega)) (by first | rfl | (simp; done)) (by first | (simp only [encC, setL, List.getElem?_cons_zero, List.getElem?_cons_succ, Value.cells, List.take_zero, List.take_succ_cons, List.take_nil, List.drop_zero, List.drop_succ_cons, List.drop_nil, List.length_cons, List.length_nil, List.cons_append, List.nil_append, List.append_nil, Nat.zero_add, Nat.add_zero, Nat.reduceAdd, Nat.reduceBEq, Nat.reduceEqDiff, Nat.ble, BEq.rfl, Bool.and_true, Bool.and_self, cond_true, beq_self_eq_true]; rfl) | (simp only [setL, List.getElem?_cons_zero, List.getElem?_cons_succ, Value.cells, List.take_zero, List.take_succ_cons, List.take_nil, List.drop_zero, List.drop_succ_cons, List.drop_nil, List.length_cons, List.length_nil, List.cons_append, List.nil_append, List.append_nil, Nat.zero_add, Nat.add_zero, Nat.reduceAdd, Nat.reduceBEq, Nat.reduceEqDiff, Nat.ble, BEq.rfl, Bool.and_true, Bool.and_self, cond_true, beq_self_eq_true]; rfl)) ?_)
    clear hh w; intro w hh
    refine wli nofun (fun _ _ h => h) (w_store hl hh trivial one4 rfl rfl (by repeat (first | exact find_head | apply find_tail)) (by first | (simp; done) | (simp; omega)) (by first | rfl | assumption | (apply Row.one; assumption)) (by first | (simp only [encC, setL, List.getElem?_cons_zero, List.getElem?_cons_succ, Value.cells, List.take_zero, List.take_succ_cons, List.take_nil, List.drop_zero, List.drop_succ_cons, List.drop_nil, List.length_cons, List.length_nil, List.cons_append, List.nil_append, List.append_nil, Nat.zero_add, Nat.add_zero, Nat.reduceAdd, Nat.reduceBEq, Nat.reduceEqDiff, Nat.ble, BEq.rfl, Bool.and_true, Bool.and_self, cond_true, beq_self_eq_true]; rfl) | (simp only [setL, List.getElem?_cons_zero, List.getElem?_cons_succ, Value.cells, List.take_zero, List.take_succ_cons, List.take_nil, List.drop_zero, List.drop_succ_cons, List.drop_nil, List.length_cons, List.length_nil, List.cons_append, List.nil_append, List.append_nil, Nat.zero_add, Nat.add_zero, Nat.reduceAdd, Nat.reduceBEq, Nat.reduceEqDiff, Nat.ble, BEq.rfl, Bool.and_true, Bool.and_self, cond_true, beq_self_eq_true]; rfl)) ?_)
    clear hh w; intro w hh
    refine wi_nil ?_
    have hl2 := hl.add (t := 4) (hl.add (t := 5) (hl.nil) rfl) rfl; clear hl; have hl := hl2; clear hl2
    refine then_normal ?_
    refine i_ret ?_
    refine f_retCCM (F' := []) hl hh (by repeat (first | exact find_head | apply find_tail)) rfl rfl rfl agg40 one4 (by repeat (first | exact find_head | apply find_tail)) (by repeat (first | exact find_head | apply find_tail)) rfl (by repeat (first | exact keeps_nil | apply keeps_cons (by repeat (first | exact find_head | apply find_tail)) (by first  | rfl) | exact keeps_self | exact keeps_left | exact keeps_right | exact keeps_swap | apply keeps_mv)) ?_
    exact ⟨by unfold nhP; rw [hct]; rfl, rfl⟩
  ·
    clear hl hh a w; intro dm pre x a w hpx hst hl hh
    simp only [List.cons_append, List.nil_append] at hh
    refine blk_ret ?_
    refine then_ret ?_
    refine f_retCCM (F' := []) hl hh (by repeat (first | exact find_head | apply find_tail)) rfl rfl rfl agg40 one4 (by repeat (first | exact find_head | apply find_tail)) (by repeat (first | exact find_head | apply find_tail)) rfl keeps_nil ?_
    have hfp := find_pre hpx hst
    exact ⟨by unfold nhP; rw [hfp], rfl⟩

set_option maxHeartbeats 4000000 in
theorem rescue_spec {Z : List (Nat × Obj)} (cp : Nat) (s : CS) (hs : Ok s) (sp : Option Addr) (bl : List (Int × Int)) (hZ : CtlR Z cp s sp bl) : SpK Tryz.prog 53 #[.pointer (some ⟨cp, 0, none⟩)] (Mem Z) [] (fun v F' => v = .tuple #[.agg ⟨grc (resP s bl)⟩, .bool (decide (0 < resN s bl))] ∧ F' = []) := by
  refine f_enterM (args := [.pointer (some ⟨cp, 0, none⟩)]) Tryz.func53 rfl Tryz.ntmps53 rfl ?_
  intro w0 w a hpre hl hh
  have o1 := hs.init; have o2 := hs.maxc; have o3 := hs.bn; have o4 := hs.bd; have o5 := hs.abc; have o6 := hs.dupt; have o7 := hs.mss; have o8 := hs.cwnd; have o9 := hs.ssth; have o10 := hs.credit; have o11 := hs.una; have o12 := hs.nxt; have o13 := hs.phase; have o14 := hs.recov; have o15 := hs.high; have o16 := hs.dups; have o17 := flightP_U s
  have hm := hpre _ _ hZ.mem
  simp only [slotsFrom, Nat.reduceAdd] at hl
  refine i_seq ?_
  refine i_region ?_
  refine wli nofun (fun _ _ h => h) (w_alloc hl hh rfl trivial zero40 rfl ?_)
  clear hl hh a w; intro k2 a w hl hh
  refine wli nofun (fun _ _ h => h) (wl_val hl rfl trivial (r_assign hl rfl) ?_)
  clear hl a; intro a hl
  refine wi_nil ?_
  have hl2 := hl.add (t := 0) (hl.add (t := 2) (hl.nil) rfl) rfl; clear hl; have hl := hl2; clear hl2
  refine then_normal ?_
  refine i_seq ?_
  refine i_region ?_
  refine wli nofun (fun _ _ h => h) (w_alloc hl hh rfl trivial zero93 rfl ?_)
  clear hl hh a w; intro k4 a w hl hh
  refine wi_nil ?_
  have hl2 := hl.add (t := 0) (hl.add (t := 2) (hl.add (t := 4) (hl.nil) rfl) rfl) rfl; clear hl; have hl := hl2; clear hl2
  refine then_normal ?_
  refine i_seq ?_
  refine i_seq ?_
  refine i_region ?_
  refine wli nofun (fun _ _ h => h) (wl_val hl rfl trivial (r_move hl rfl) ?_)
  clear hl a; intro a hl
  refine wli nofun (fun _ _ h => h) (w_call hl hh rfl trivial rfl cal54 rfl (holes_spec cp) (by repeat (first | exact keeps_nil | apply keeps_cons (by repeat (first | exact find_head | apply find_tail)) (by first  | rfl) | exact keeps_self | exact keeps_left | exact keeps_right | exact keeps_swap | apply keeps_mv)) trivial ?_)
  clear hl hh a w; intro vc Fc a w hR hl hh
  obtain ⟨kb, rfl, rfl⟩ := hR
  try simp only [List.cons_append, List.nil_append] at hh
  refine wi_nil ?_
  have hl2 := hl.add (t := 0) (hl.add (t := 2) (hl.add (t := 4) (hl.add (t := 8) (hl.nil) rfl) rfl) rfl) rfl; clear hl; have hl := hl2; clear hl2
  refine then_normal ?_
  refine i_block ?_
  refine range_holes hs hZ hl hh rfl hpre rfl (fun p => [(k4, C [.int .u32 (lastH (p)).s, .int .u32 (lastH (p)).e, .bool (lastH (p)).lost, .bool (lastH (p)).tail] 93)]) (fun _ => []) (fun _ => True) (fun _ => False) trivial [k4] (fun _ => rfl) (keeps_cons (by repeat (first | exact find_head | apply find_tail)) rfl keeps_nil) (by simp) ?_ ?_ ?_
  ·
    clear hl hh a w; intro l lp pre x w9 w a hpx hcp hpz hl hh hdZ
    have hm9 := hpz _ _ hZ.mem; have hcD9 := hdZ _ hZ.mem
    simp only [hoc] at hl
    refine i_region ?_
    refine wli nofun (fun _ _ h => h) (w_alloc hl hh rfl trivial zero93 rfl ?_)
    clear hl hh a w; intro k5 a w hl hh
    refine wli nofun (fun _ _ h => h) (w_storeA hl hh trivial agg93 rfl rfl (by repeat (first | exact find_head | apply find_tail)) (by first | rfl | (simp; done)) (by first | (simp; done) | (simp; omega)) (by first | rfl | (simp; done)) (by first | (simp only [encC, setL, List.getElem?_cons_zero, List.getElem?_cons_succ, Value.cells, List.take_zero, List.take_succ_cons, List.take_nil, List.drop_zero, List.drop_succ_cons, List.drop_nil, List.length_cons, List.length_nil, List.cons_append, List.nil_append, List.append_nil, Nat.zero_add, Nat.add_zero, Nat.reduceAdd, Nat.reduceBEq, Nat.reduceEqDiff, Nat.ble, BEq.rfl, Bool.and_true, Bool.and_self, cond_true, beq_self_eq_true]; rfl) | (simp only [setL, List.getElem?_cons_zero, List.getElem?_cons_succ, Value.cells, List.take_zero, List.take_succ_cons, List.take_nil, List.drop_zero, List.drop_succ_cons, List.drop_nil, List.length_cons, List.length_nil, List.cons_append, List.nil_append, List.append_nil, Nat.zero_add, Nat.add_zero, Nat.reduceAdd, Nat.reduceBEq, Nat.reduceEqDiff, Nat.ble, BEq.rfl, Bool.and_true, Bool.and_self, cond_true, beq_self_eq_true]; rfl)) ?_)
    clear hh w; intro w hh
    refine wi_nil ?_
    have hl2 := hl.add (t := 4) (hl.add (t := 5) (hl.nil) rfl) rfl; clear hl; have hl := hl2; clear hl2
    refine then_normal ?_
    refine ⟨_, hh.perm (Find.perm (b := l) (by repeat (first | exact find_head | apply find_tail))), ?_⟩
    clear hh w; intro w hh
    refine i_block ?_
    refine i_region ?_
    refine wli nofun (fun _ _ h => h) (w_loadA hl hh rfl trivial agg93 rfl (by repeat (first | exact find_head | apply find_tail)) (by first | (simp only [List.getElem?_cons_zero, List.getElem?_cons_succ, Value.cells, List.take_zero, List.take_succ_cons, List.take_nil, List.drop_zero, List.drop_succ_cons, List.drop_nil, List.length_cons, List.length_nil, List.cons_append, List.nil_append, List.append_nil, Nat.zero_add, Nat.add_zero, Nat.reduceAdd, Nat.reduceBEq, Nat.reduceEqDiff, Nat.ble, BEq.rfl, Bool.and_true, Bool.and_self, cond_true, beq_self_eq_true]; rfl)) (by first | rfl | (simp; done)) ?_)
    clear hl a; intro a hl
    refine wli nofun (fun _ _ h => h) (w_storeA hl hh trivial agg93 rfl rfl (by repeat (first | exact find_head | apply find_tail)) (by first | rfl | (simp; done)) (by first | (simp; done) | (simp; omega)) (by first | rfl | (simp; done)) (by first | (simp only [encC, setL, List.getElem?_cons_zero, List.getElem?_cons_succ, Value.cells, List.take_zero, List.take_succ_cons, List.take_nil, List.drop_zero, List.drop_succ_cons, List.drop_nil, List.length_cons, List.length_nil, List.cons_append, List.nil_append, List.append_nil, Nat.zero_add, Nat.add_zero, Nat.reduceAdd, Nat.reduceBEq, Nat.reduceEqDiff, Nat.ble, BEq.rfl, Bool.and_true, Bool.and_self, cond_true, beq_self_eq_true]; rfl) | (simp only [setL, List.getElem?_cons_zero, List.getElem?_cons_succ, Value.cells, List.take_zero, List.take_succ_cons, List.take_nil, List.drop_zero, List.drop_succ_cons, List.drop_nil, List.length_cons, List.length_nil, List.cons_append, List.nil_append, List.append_nil, Nat.zero_add, Nat.add_zero, Nat.reduceAdd, Nat.reduceBEq, Nat.reduceEqDiff, Nat.ble, BEq.rfl, Bool.and_true, Bool.and_self, cond_true, beq_self_eq_true]; rfl)) ?_)
    clear hh w; intro w hh
    refine wi_nil ?_
    have hl2 := hl.nil; clear hl; have hl := hl2; clear hl2
    refine blk_normal ?_
    refine ⟨[(k4, C [.int .u32 x.s, .int .u32 x.e, .bool x.lost, .bool x.tail] 93)], ⟨trivial, by rw [lastH_snoc]⟩, hh.keep (by repeat (first | exact keeps_nil | apply keeps_cons (by repeat (first | exact find_head | apply find_tail)) (by first  | rfl) | exact keeps_self | exact keeps_left | exact keeps_right | exact keeps_swap | apply keeps_mv))⟩
  ·
    clear hl hh a w; intro dm a w _ hl hh
    simp only [List.cons_append, List.nil_append] at hh
    refine blk_normal ?_
    refine then_normal ?_
    refine i_seq ?_
    refine i_draw [(k4, C [.int .u32 (lastH (holesP s bl)).s, .int .u32 (lastH (holesP s bl)).e, .bool (lastH (holesP s bl)).lost, .bool (lastH (holesP s bl)).tail] 93), (cp, C (encC s sp) 66)] [9, 10] mixed (by kernel_rfl) (fun _ _ h => h) hh ?_
    clear hh w; intro w hh
    have hM : Mem [(k4, C [.int .u32 (lastH (holesP s bl)).s, .int .u32 (lastH (holesP s bl)).e, .bool (lastH (holesP s bl)).lost, .bool (lastH (holesP s bl)).tail] 93), (cp, C (encC s sp) 66)] w := (by (repeat (first | exact Mem.nil | refine Mem.consR hh (by assumption) (by simp) ?_ | refine Mem.cons hh.mem (by (repeat (first | exact find_head | apply find_tail)); done) ?_ | fail)); done)
    refine d_take (i := 0) hl rfl (by kernel_rfl) (by kernel_rfl) (by kernel_rfl) (by kernel_rfl) (by kernel_rfl) rfl trivial (fun _ _ _ h => h) hM (fun w hC => r_move hl rfl) rfl ?_
    clear hl a; intro a hl
    refine d_take (i := 1) hl rfl (by kernel_rfl) (by kernel_rfl) (by kernel_rfl) (by kernel_rfl) (by kernel_rfl) rfl trivial (fun _ _ _ h => h) hM (fun w hC => r_nilCheck hl rfl) rfl ?_
    clear hl a; intro a hl
    refine d_take (i := 2) hl rfl (by kernel_rfl) (by kernel_rfl) (by kernel_rfl) (by kernel_rfl) (by kernel_rfl) rfl trivial (fun _ _ _ h => h) hM (fun w hC => r_field hl rfl fld66_1) rfl ?_
    clear hl a; intro a hl
    refine d_take (i := 3) hl rfl (by kernel_rfl) (by kernel_rfl) (by kernel_rfl) (by kernel_rfl) (by kernel_rfl) rfl trivial (fun _ _ _ h => h) hM (fun w hC => r_loadC hl rfl one29 hC (by repeat (first | exact find_head | apply find_tail)) (by first | rfl)) rfl ?_
    clear hl a; intro a hl
    refine d_take (i := 4) hl rfl (by kernel_rfl) (by kernel_rfl) (by kernel_rfl) (by kernel_rfl) (by kernel_rfl) rfl trivial (fun _ _ _ h => h) hM (fun w hC => r_field hl rfl fld93_1) rfl ?_
    clear hl a; intro a hl
    refine d_take (i := 5) hl rfl (by kernel_rfl) (by kernel_rfl) (by kernel_rfl) (by kernel_rfl) (by kernel_rfl) rfl trivial (fun _ _ _ h => h) hM (fun w hC => r_loadC hl rfl one29 hC (by repeat (first | exact find_head | apply find_tail)) (by first | rfl)) rfl ?_
    clear hl a; intro a hl
    refine d_take (i := 6) hl rfl (by kernel_rfl) (by kernel_rfl) (by kernel_rfl) (by kernel_rfl) (by kernel_rfl) rfl trivial (fun _ _ _ h => h) hM (fun w hC => r_field hl rfl fld93_0) rfl ?_
    clear hl a; intro a hl
    refine d_take (i := 7) hl rfl (by kernel_rfl) (by kernel_rfl) (by kernel_rfl) (by kernel_rfl) (by kernel_rfl) rfl trivial (fun _ _ _ h => h) hM (fun w hC => r_loadC hl rfl one29 hC (by repeat (first | exact find_head | apply find_tail)) (by first | rfl)) rfl ?_
    clear hl a; intro a hl
    refine d_take (i := 8) hl rfl (by kernel_rfl) (by kernel_rfl) (by kernel_rfl) (by kernel_rfl) (by kernel_rfl) rfl trivial (fun _ _ _ h => h) hM (fun w hC => r_subM wm_u32 hl rfl rfl) rfl ?_
    clear hl a; intro a hl
    refine d_takeL (i := 9) hl rfl (by kernel_rfl) (by kernel_rfl) (by kernel_rfl) (by kernel_rfl) (by kernel_rfl) rfl trivial (fun _ _ _ h => h) (fun w => r_minI hl rfl rfl) rfl ?_
    clear hl a; intro a hl
    rw [show min s.mss (((lastH (holesP s bl)).e - (lastH (holesP s bl)).s) % 4294967296) = resN s bl from rfl] at hl
    refine d_takeL (i := 10) hl rfl (by kernel_rfl) (by kernel_rfl) (by kernel_rfl) (by kernel_rfl) (by kernel_rfl) rfl trivial (fun _ _ _ h => h) (fun w => r_assign hl rfl) rfl ?_
    clear hl a; intro a hl
    refine d_done (by kernel_rfl) ?_
    try clear hM
    have hl2 := hl.add (t := 2) (hl.add (t := 4) (hl.add (t := 6) (hl.nil) rfl) rfl) rfl; clear hl; have hl := hl2; clear hl2
    refine then_normal ?_
    refine i_seq ?_
    refine i_region ?_
    refine wli nofun (fun _ _ h => h) (wl_val hl rfl trivial (r_field hl rfl fld93_1) ?_)
    clear hl a; intro a hl
    first | refine wli nofun (fun _ _ h => h) (w_load hl hh rfl trivial one29 rfl (by repeat (first | exact find_head | apply find_tail)) (by first | rfl) ?_) | refine wli nofun (fun _ _ h => h) (w_loadR hl hh rfl trivial one29 rfl hm (by simp) rfl ?_)
    clear hl a; intro a hl
    refine wli nofun (fun _ _ h => h) (wl_val hl rfl trivial (r_move hl rfl) ?_)
    clear hl a; intro a hl
    refine wli nofun (fun _ _ h => h) (wl_val hl rfl trivial (r_subM wm_u32 hl rfl rfl) ?_)
    clear hl a; intro a hl
    refine wli nofun (fun _ _ h => h) (wl_val hl rfl trivial (r_move hl rfl) ?_)
    clear hl a; intro a hl
    refine wli nofun (fun _ _ h => h) (wl_val hl rfl trivial (r_build hl rfl zero40 bld40 (by simp only [fillL, setL, List.getElem?_cons_zero, List.getElem?_cons_succ, Value.cells, List.take_zero, List.take_succ_cons, List.take_nil, List.drop_zero, List.drop_succ_cons, List.drop_nil, List.length_cons, List.length_nil, List.cons_append, List.nil_append, List.append_nil, Nat.zero_add, Nat.add_zero, Nat.reduceAdd, Nat.reduceBEq, Nat.reduceEqDiff, Nat.ble, BEq.rfl, Bool.and_true, Bool.and_self, cond_true, beq_self_eq_true]; rfl)) ?_)
    clear hl a; intro a hl
    refine wli nofun (fun _ _ h => h) (wl_val hl rfl trivial (r_move hl rfl) ?_)
    clear hl a; intro a hl
    refine wli nofun (fun _ _ h => h) (wl_val hl rfl trivial (r_gtr hl rfl rfl) ?_)
    clear hl a; intro a hl
    refine wli nofun (fun _ _ h => h) (w_storeA hl hh trivial agg40 rfl rfl (by repeat (first | exact find_head | apply find_tail)) (by first | rfl | (simp; done)) (by first | (simp; done) | (simp; omega)) (by first | rfl | (simp; done)) (by first | (simp only [encC, setL, List.getElem?_cons_zero, List.getElem?_cons_succ, Value.cells, List.take_zero, List.take_succ_cons, List.take_nil, List.drop_zero, List.drop_succ_cons, List.drop_nil, List.length_cons, List.length_nil, List.cons_append, List.nil_append, List.append_nil, Nat.zero_add, Nat.add_zero, Nat.reduceAdd, Nat.reduceBEq, Nat.reduceEqDiff, Nat.ble, BEq.rfl, Bool.and_true, Bool.and_self, cond_true, beq_self_eq_true]; rfl) | (simp only [setL, List.getElem?_cons_zero, List.getElem?_cons_succ, Value.cells, List.take_zero, List.take_succ_cons, List.take_nil, List.drop_zero, List.drop_succ_cons, List.drop_nil, List.length_cons, List.length_nil, List.cons_append, List.nil_append, List.append_nil, Nat.zero_add, Nat.add_zero, Nat.reduceAdd, Nat.reduceBEq, Nat.reduceEqDiff, Nat.ble, BEq.rfl, Bool.and_true, Bool.and_self, cond_true, beq_self_eq_true]; rfl)) ?_)
    clear hh w; intro w hh
    refine wli nofun (fun _ _ h => h) (wl_val hl rfl trivial (r_assign hl rfl) ?_)
    clear hl a; intro a hl
    refine wi_nil ?_
    have hl2 := hl.add (t := 2) (hl.add (t := 3) (hl.nil) rfl) rfl; clear hl; have hl := hl2; clear hl2
    refine then_normal ?_
    refine i_ret ?_
    refine f_retCTM (F' := []) hl hh (by repeat (first | exact find_head | apply find_tail)) rfl rfl rfl agg40 (by repeat (first | exact find_head | apply find_tail)) rfl (by repeat (first | exact keeps_nil | apply keeps_cons (by repeat (first | exact find_head | apply find_tail)) (by first  | rfl) | exact keeps_self | exact keeps_left | exact keeps_right | exact keeps_swap | apply keeps_mv)) ?_
    exact ⟨rfl, rfl⟩
  ·
    clear hl hh a w; intro dm pre x a4 w4 h1 h2; exact h2.elim

set_option maxHeartbeats 1000000 in
theorem repairs_spec (cp : Nat) (s : CS) (sp : Option Addr) (hs : Ok s) : SpK Tryz.prog 51 #[.pointer (some ⟨cp, 0, none⟩)] (fun w => w.heap[cp]? = some (C (encC s sp) 66)) [] (fun v F' => v = .bool (repP s sp.isNone) ∧ F' = []) := by
  refine f_enter (args := [.pointer (some ⟨cp, 0, none⟩)]) Tryz.func51 rfl Tryz.ntmps51 rfl ?_
  intro w0 w a hpre hl hh
  have o1 := hs.init; have o2 := hs.maxc; have o3 := hs.bn; have o4 := hs.bd; have o5 := hs.abc; have o6 := hs.dupt; have o7 := hs.mss; have o8 := hs.cwnd; have o9 := hs.ssth; have o10 := hs.credit; have o11 := hs.una; have o12 := hs.nxt; have o13 := hs.phase; have o14 := hs.recov; have o15 := hs.high; have o16 := hs.dups; have o17 := flightP_U s
  simp only [slotsFrom, Nat.reduceAdd] at hl
  refine c_seq ?_
  refine c_region ?_
  refine wl (wl_val hl rfl trivial (r_assign hl rfl) ?_)
  clear hl a; intro a hl
  refine w_nil ?_
  have hl2 := hl.add (t := 0) (hl.nil) rfl; clear hl; have hl := hl2; clear hl2
  refine then_normal ?_
  refine c_seq ?_
  refine c_region ?_
  refine wl (wl_val hl rfl trivial (r_move hl rfl) ?_)
  clear hl a; intro a hl
  refine wl (wl_val hl rfl trivial (r_nilCheck hl rfl) ?_)
  clear hl a; intro a hl
  refine wl (wl_val hl rfl trivial (r_field hl rfl fld66_8) ?_)
  clear hl a; intro a hl
  first | refine wl (w_load hl hh rfl trivial one59 rfl (by repeat (first | exact find_head | apply find_tail)) (by first | rfl) ?_) | refine wl (w_loadR hl hh rfl trivial one59 rfl hpre (by simp) rfl ?_)
  clear hl a; intro a hl
  refine wl (wl_val hl rfl trivial (r_eql hl rfl rfl) ?_)
  clear hl a; intro a hl
  refine wl (wl_val hl rfl trivial (r_move hl rfl) ?_)
  clear hl a; intro a hl
  refine sl_split (t := 8) hl rfl ?_ ?_
  · intro hg1; clear hl; intro hl
    try simp only [decide_eq_true_eq, decide_eq_false_iff_not, Bool.not_eq_true', Bool.not_eq_false', Bool.not_eq_true, Bool.not_eq_false, Bool.and_eq_true, Bool.or_eq_true, Bool.and_eq_false_iff, Bool.or_eq_false_iff, Bool.not_not, ne_eq, Int.not_lt, Int.not_le, Decidable.not_not, beq_iff_eq, bne_iff_ne] at hg1
    refine wl (wl_skip hl rfl ⟨_, _, rfl, rfl, rfl⟩ ?_)
    clear hl a; intro a hl
    refine wl (wl_skip hl rfl ⟨_, _, rfl, rfl, rfl⟩ ?_)
    clear hl a; intro a hl
    refine wl (wl_skip hl rfl ⟨_, _, rfl, rfl, rfl⟩ ?_)
    clear hl a; intro a hl
    refine wl (wl_skip hl rfl ⟨_, _, rfl, rfl, rfl⟩ ?_)
    clear hl a; intro a hl
    refine wl (wl_skip hl rfl ⟨_, _, rfl, rfl, rfl⟩ ?_)
    clear hl a; intro a hl
    refine wl (wl_skip hl rfl ⟨_, _, rfl, rfl, rfl⟩ ?_)
    clear hl a; intro a hl
    refine wl (wl_skipU hl rfl ⟨_, _, rfl, rfl, rfl⟩ ?_)
    clear hl a; intro a hl
    refine wl (wl_skipU hl rfl ⟨_, _, rfl, rfl, rfl⟩ ?_)
    clear hl a; intro a hl
    refine wl (wl_skipU hl rfl ⟨_, _, rfl, rfl, rfl⟩ ?_)
    clear hl a; intro a hl
    refine wl (wl_skipU hl rfl ⟨_, _, rfl, rfl, rfl⟩ ?_)
    clear hl a; intro a hl
    refine wl (wl_skipU hl rfl ⟨_, _, rfl, rfl, rfl⟩ ?_)
    clear hl a; intro a hl
    refine wl (wl_skip hl rfl ⟨_, _, rfl, rfl, rfl⟩ ?_)
    clear hl a; intro a hl
    refine wl (wl_val hl rfl trivial (r_pickT hl rfl rfl) ?_)
    clear hl a; intro a hl
    refine wl (wl_val hl rfl trivial (r_assign hl rfl) ?_)
    clear hl a; intro a hl
    refine w_nil ?_
    have hl2 := hl.add (t := 2) (hl.nil) rfl; clear hl; have hl := hl2; clear hl2
    refine then_normal ?_
    refine wp_ret ?_
    refine f_ret1 (F' := []) hl hh rfl rfl (by repeat (first | exact keeps_nil | apply keeps_cons (by repeat (first | exact find_head | apply find_tail)) (by first  | rfl) | exact keeps_self | apply keeps_mv)) ?_
    first | (have h9 := repP_1 (s := s) (ns := sp.isNone) (by assumption); exact ⟨congrArg Value.bool h9, rfl⟩) | (have h9 := repP_2 (s := s) (ns := sp.isNone) (by assumption) (by assumption); exact ⟨congrArg Value.bool h9, rfl⟩) | (have h9 := repP_3 (s := s) (ns := sp.isNone) (by assumption) (by assumption); exact ⟨congrArg Value.bool h9, rfl⟩)
  · intro hg1; clear hl; intro hl
    try simp only [decide_eq_true_eq, decide_eq_false_iff_not, Bool.not_eq_true', Bool.not_eq_false', Bool.not_eq_true, Bool.not_eq_false, Bool.and_eq_true, Bool.or_eq_true, Bool.and_eq_false_iff, Bool.or_eq_false_iff, Bool.not_not, ne_eq, Int.not_lt, Int.not_le, Decidable.not_not, beq_iff_eq, bne_iff_ne] at hg1
    refine wl (wl_val hl rfl ⟨_, _, rfl, rfl, rfl⟩ (r_move hl rfl) ?_)
    clear hl a; intro a hl
    refine wl (wl_val hl rfl ⟨_, _, rfl, rfl, rfl⟩ (r_nilCheck hl rfl) ?_)
    clear hl a; intro a hl
    refine wl (wl_val hl rfl ⟨_, _, rfl, rfl, rfl⟩ (r_field hl rfl fld66_8) ?_)
    clear hl a; intro a hl
    first | refine wl (w_load hl hh rfl ⟨_, _, rfl, rfl, rfl⟩ one59 rfl (by repeat (first | exact find_head | apply find_tail)) (by first | rfl) ?_) | refine wl (w_loadR hl hh rfl ⟨_, _, rfl, rfl, rfl⟩ one59 rfl hpre (by simp) rfl ?_)
    clear hl a; intro a hl
    refine wl (wl_val hl rfl ⟨_, _, rfl, rfl, rfl⟩ (r_eql hl rfl rfl) ?_)
    clear hl a; intro a hl
    refine wl (wl_val hl rfl ⟨_, _, rfl, rfl, rfl⟩ (r_move hl rfl) ?_)
    clear hl a; intro a hl
    refine sl_split (t := 14) hl rfl ?_ ?_
    · intro hg2; clear hl; intro hl
      try simp only [decide_eq_true_eq, decide_eq_false_iff_not, Bool.not_eq_true', Bool.not_eq_false', Bool.not_eq_true, Bool.not_eq_false, Bool.and_eq_true, Bool.or_eq_true, Bool.and_eq_false_iff, Bool.or_eq_false_iff, Bool.not_not, ne_eq, Int.not_lt, Int.not_le, Decidable.not_not, beq_iff_eq, bne_iff_ne] at hg2
      refine wl (wl_val hl rfl ⟨_, _, rfl, rfl, rfl⟩ (r_move hl rfl) ?_)
      clear hl a; intro a hl
      refine wl (wl_val hl rfl ⟨_, _, rfl, rfl, rfl⟩ (r_nilCheck hl rfl) ?_)
      clear hl a; intro a hl
      refine wl (wl_val hl rfl ⟨_, _, rfl, rfl, rfl⟩ (r_field hl rfl fld66_2) ?_)
      clear hl a; intro a hl
      first | refine wl (w_load hl hh rfl ⟨_, _, rfl, rfl, rfl⟩ one64 rfl (by repeat (first | exact find_head | apply find_tail)) (by first | rfl) ?_) | refine wl (w_loadR hl hh rfl ⟨_, _, rfl, rfl, rfl⟩ one64 rfl hpre (by simp) rfl ?_)
      clear hl a; intro a hl
      refine wl (wl_val hl rfl ⟨_, _, rfl, rfl, rfl⟩ (r_neq_pointer hl rfl rfl ptr64) ?_)
      clear hl a; intro a hl
      refine wl (wl_val hl rfl ⟨_, _, rfl, rfl, rfl⟩ (r_pickT hl rfl rfl) ?_)
      clear hl a; intro a hl
      refine wl (wl_val hl rfl trivial (r_pickF hl rfl rfl) ?_)
      clear hl a; intro a hl
      refine wl (wl_val hl rfl trivial (r_assign hl rfl) ?_)
      clear hl a; intro a hl
      refine w_nil ?_
      have hl2 := hl.add (t := 2) (hl.nil) rfl; clear hl; have hl := hl2; clear hl2
      refine then_normal ?_
      refine wp_ret ?_
      refine f_ret1 (F' := []) hl hh rfl rfl (by repeat (first | exact keeps_nil | apply keeps_cons (by repeat (first | exact find_head | apply find_tail)) (by first  | rfl) | exact keeps_self | apply keeps_mv)) ?_
      first | (have h9 := repP_1 (s := s) (ns := sp.isNone) (by assumption); exact ⟨congrArg Value.bool h9, rfl⟩) | (have h9 := repP_2 (s := s) (ns := sp.isNone) (by assumption) (by assumption); exact ⟨congrArg Value.bool h9, rfl⟩) | (have h9 := repP_3 (s := s) (ns := sp.isNone) (by assumption) (by assumption); exact ⟨congrArg Value.bool h9, rfl⟩)
    · intro hg2; clear hl; intro hl
      try simp only [decide_eq_true_eq, decide_eq_false_iff_not, Bool.not_eq_true', Bool.not_eq_false', Bool.not_eq_true, Bool.not_eq_false, Bool.and_eq_true, Bool.or_eq_true, Bool.and_eq_false_iff, Bool.or_eq_false_iff, Bool.not_not, ne_eq, Int.not_lt, Int.not_le, Decidable.not_not, beq_iff_eq, bne_iff_ne] at hg2
      refine wl (wl_skip hl rfl ⟨_, _, rfl, rfl, rfl⟩ ?_)
      clear hl a; intro a hl
      refine wl (wl_skip hl rfl ⟨_, _, rfl, rfl, rfl⟩ ?_)
      clear hl a; intro a hl
      refine wl (wl_skip hl rfl ⟨_, _, rfl, rfl, rfl⟩ ?_)
      clear hl a; intro a hl
      refine wl (wl_skip hl rfl ⟨_, _, rfl, rfl, rfl⟩ ?_)
      clear hl a; intro a hl
      refine wl (wl_skip hl rfl ⟨_, _, rfl, rfl, rfl⟩ ?_)
      clear hl a; intro a hl
      refine wl (wl_val hl rfl ⟨_, _, rfl, rfl, rfl⟩ (r_pickF hl rfl rfl) ?_)
      clear hl a; intro a hl
      refine wl (wl_val hl rfl trivial (r_pickF hl rfl rfl) ?_)
      clear hl a; intro a hl
      refine wl (wl_val hl rfl trivial (r_assign hl rfl) ?_)
      clear hl a; intro a hl
      refine w_nil ?_
      have hl2 := hl.add (t := 2) (hl.nil) rfl; clear hl; have hl := hl2; clear hl2
      refine then_normal ?_
      refine wp_ret ?_
      refine f_ret1 (F' := []) hl hh rfl rfl (by repeat (first | exact keeps_nil | apply keeps_cons (by repeat (first | exact find_head | apply find_tail)) (by first  | rfl) | exact keeps_self | apply keeps_mv)) ?_
      first | (have h9 := repP_1 (s := s) (ns := sp.isNone) (by assumption); exact ⟨congrArg Value.bool h9, rfl⟩) | (have h9 := repP_2 (s := s) (ns := sp.isNone) (by assumption) (by assumption); exact ⟨congrArg Value.bool h9, rfl⟩) | (have h9 := repP_3 (s := s) (ns := sp.isNone) (by assumption) (by assumption); exact ⟨congrArg Value.bool h9, rfl⟩)
end Go.Proofs.Qxb6500912aGreatDoor

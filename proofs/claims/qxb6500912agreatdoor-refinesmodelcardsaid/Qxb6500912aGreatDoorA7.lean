import Derived.Test.Qxb6500912aGreatDoorA6
namespace Go.Proofs.Qxb6500912aGreatDoor
open Go.Eng
set_option linter.unusedVariables false
set_option linter.unusedSimpArgs false
theorem cal42 : callable Tryz.prog 42 = true := by kernel_rfl
theorem cal43 : callable Tryz.prog 43 = true := by kernel_rfl
theorem cal40 : callable Tryz.prog 40 = true := by kernel_rfl
theorem cal41 : callable Tryz.prog 41 = true := by kernel_rfl
/-! ## an acknowledgement -/
def ackP (s : CS) (ns : Bool) (ack : Int) (dup : Bool) (bl : List (Int × Int)) : CS :=
  if flightP s < (ack - s.una) % 4294967296 then s else
  if 0 < (ack - s.una) % 4294967296 then advP s ns ack ((ack - s.una) % 4294967296) else
  if dup = true ∧ 0 < flightP s then dupP s ns bl else s
section ack
variable {s : CS} {ns : Bool} {ack : Int} {dup : Bool} {bl : List (Int × Int)}
theorem ackP_1 (h : flightP s < (ack - s.una) % 4294967296) : ackP s ns ack dup bl = s := by unfold ackP; rw [if_pos h]
theorem ackP_2 (h : (ack - s.una) % 4294967296 ≤ flightP s) (h2 : 0 < (ack - s.una) % 4294967296) : ackP s ns ack dup bl = advP s ns ack ((ack - s.una) % 4294967296) := by unfold ackP; rw [if_neg (by omega), if_pos h2]
theorem ackP_3 (h2 : (ack - s.una) % 4294967296 ≤ 0) (h3 : dup = true) (h4 : 0 < flightP s) : ackP s ns ack dup bl = dupP s ns bl := by unfold ackP; rw [if_neg (by omega), if_neg (by omega), if_pos ⟨h3, h4⟩]
theorem ackP_4 (h2 : (ack - s.una) % 4294967296 ≤ 0) (h4 : flightP s ≤ 0) : ackP s ns ack dup bl = s := by unfold ackP; rw [if_neg (by have := flightP_U s; omega), if_neg (by omega), if_neg (by omega)]
theorem ackP_5 (h2 : (ack - s.una) % 4294967296 ≤ 0) (h3 : dup = false) : ackP s ns ack dup bl = s := by unfold ackP; rw [if_neg (by have := flightP_U s; omega), if_neg (by omega), if_neg (by simp [h3])]
theorem ackP_ok (h : Ok s) (ha : U ack) : Ok (ackP s ns ack dup bl) := by
  unfold ackP; split
  · exact h
  split
  · exact advP_ok h ns ha ⟨by omega, by omega⟩
  split
  · exact dupP_ok h ns bl
  · exact h
theorem setC_un (x : Int) : (setC s x).una = s.una ∧ (setC s x).nxt = s.nxt := ⟨rfl, rfl⟩
theorem growP_un (x : Int) : (growP s x).una = s.una ∧ (growP s x).nxt = s.nxt := by
  unfold growP growM; split
  · exact ⟨rfl, rfl⟩
  · split <;> exact ⟨rfl, rfl⟩
theorem leaveP_un : (leaveP s ns).una = s.una ∧ (leaveP s ns).nxt = s.nxt := by unfold leaveP; split <;> exact ⟨rfl, rfl⟩
theorem guardP_un : (guardP s).una = s.una ∧ (guardP s).nxt = s.nxt := by unfold guardP; split <;> exact ⟨rfl, rfl⟩
theorem adv1_un : (adv1 s ack).una = ack ∧ (adv1 s ack).nxt = s.nxt := by unfold adv1; split <;> exact ⟨rfl, rfl⟩
theorem adv2_un (x : Int) : (adv2 s ns ack x).una = s.una ∧ (adv2 s ns ack x).nxt = s.nxt := by
  unfold adv2; split
  · exact growP_un x
  split
  · split
    · exact growP_un x
    · exact growP_un (s := s) x
  split
  · split
    · split <;> exact ⟨rfl, rfl⟩
    · exact leaveP_un
  · exact ⟨rfl, rfl⟩
theorem advP_un (x : Int) : (advP s ns ack x).una = ack ∧ (advP s ns ack x).nxt = s.nxt := by
  unfold advP
  rw [guardP_un.1, guardP_un.2, (adv2_un x).1, (adv2_un x).2]; exact adv1_un
theorem dupP_un : (dupP s ns bl).una = s.una ∧ (dupP s ns bl).nxt = s.nxt := by
  unfold dupP; split
  · exact ⟨rfl, rfl⟩
  split <;> exact ⟨rfl, rfl⟩
theorem ackP_nxt : (ackP s ns ack dup bl).nxt = s.nxt := by
  unfold ackP; split
  · rfl
  split
  · exact (advP_un _).2
  split
  · exact dupP_un.2
  · rfl
theorem ackP_una (hs : U s.una) (ha : U ack) (h : (ack - s.una) % 4294967296 ≤ flightP s) : (ackP s ns ack dup bl).una = ack := by
  unfold ackP; rw [if_neg (by omega)]; split
  · exact (advP_un _).1
  · have : s.una = ack := by omega
    split
    · rw [dupP_un.1, this]
    · exact this
end ack
theorem bdL_eq {a b a' b' : Int} {v : Value} (h1 : a = a') (h2 : b = b') : bdL a b v = bdL a' b' v := by rw [h1, h2]
/-- the blocks, seen from a later una -/
def advO1 (a : Nat) (x : Bk) : Option Bk := if a < x.e then some ⟨x.s - a, x.e - a, Nat.lt_of_le_of_lt (Nat.sub_le _ _) x.h⟩ else none
def advO (a : Nat) (os : List Bk) : List Bk := os.filterMap (advO1 a)
theorem advB1_off {u : Int} {a f : Nat} {x : Bk} (hx : BIn f x) (hf : f ≤ 2147483647) (ha : a ≤ f) : advB1 ((u + (a : Int)) % 4294967296) (x.ab u) = (advO1 a x).map (Bk.ab ((u + (a : Int)) % 4294967296)) := by
  obtain ⟨h1, h2⟩ := hx
  have hs := x.h
  unfold advB1 advO1 Bk.ab
  have e1 : advS ((u + (a : Int)) % 4294967296) ((u + (x.s : Int)) % 4294967296, (u + (x.e : Int)) % 4294967296) = (u + ((max x.s a : Nat) : Int)) % 4294967296 := by
    unfold advS
    simp only
    rw [less_b (by omega) (by omega)]
    by_cases h : x.s < a
    · rw [if_pos (by simpa using h)]; congr 2; omega
    · rw [if_neg (by simpa using h)]; congr 2; omega
  rw [e1]
  simp only
  rw [less_b (by omega) (by omega)]
  by_cases h : a < x.e
  · rw [if_pos (by simp; omega), if_pos h]
    simp only [Option.map_some, Option.some.injEq, Prod.mk.injEq]
    constructor <;> omega
  · rw [if_neg (by simp; omega), if_neg h]; rfl
theorem advB_off {u : Int} {a f : Nat} (hf : f ≤ 2147483647) (ha : a ≤ f) : ∀ {os : List Bk}, BInv f os → advB ((u + (a : Int)) % 4294967296) (os.map (Bk.ab u)) = (advO a os).map (Bk.ab ((u + (a : Int)) % 4294967296))
  | [], _ => rfl
  | x :: os, h => by
    have ih := advB_off (u := u) hf ha h.2.2
    unfold advB advO at ih ⊢
    rw [List.map_cons, List.filterMap_cons, List.filterMap_cons, advB1_off h.1 hf ha]
    cases advO1 a x with
    | none => exact ih
    | some y => simp only [Option.map_some, List.map_cons]; rw [ih]
theorem advO_mem {a : Nat} {os : List Bk} {y : Bk} (h : y ∈ advO a os) : ∃ x, x ∈ os ∧ a < x.e ∧ y.s = x.s - a ∧ y.e = x.e - a := by
  unfold advO at h
  obtain ⟨x, hx, hy⟩ := List.mem_filterMap.1 h
  unfold advO1 at hy
  split at hy
  · injection hy with hy; subst hy; exact ⟨x, hx, by assumption, rfl, rfl⟩
  · cases hy
theorem advO_inv {f a : Nat} (ha : a ≤ f) : ∀ {os : List Bk}, BInv f os → BInv (f - a) (advO a os)
  | [], _ => trivial
  | x :: os, h => by
    have ih := advO_inv ha h.2.2
    unfold advO at ih ⊢
    rw [List.filterMap_cons]
    cases hx : advO1 a x with
    | none => exact ih
    | some y =>
      unfold advO1 at hx
      split at hx
      · rename_i hlt
        injection hx with hx; subst hx
        obtain ⟨h1, h2⟩ := h.1
        refine ⟨⟨by show x.s - a < x.e - a; omega, by show x.e - a ≤ f - a; omega⟩, fun z hz => ?_, ih⟩
        obtain ⟨w, hw, hw2, hw3, _⟩ := advO_mem hz
        have := h.2.1 w hw
        show x.e - a < z.s
        omega
      · cases hx
theorem advO_len (a : Nat) (os : List Bk) : (advO a os).length ≤ os.length := List.length_filterMap_le _ _
/-- all reports of one acknowledgement -/
inductive AddsR (u bn : Int) (os : List Bk) : List (Int × Int) → List Bk → Int → Prop
  | nil : AddsR u bn os [] os 0
  | snoc {bks : List (Int × Int)} {os1 os2 : List Bk} {n r : Int} {b : Int × Int} : AddsR u bn os bks os1 n → AddR u bn os1 b os2 r → AddsR u bn os (bks ++ [b]) os2 ((n + r) % 4294967296)
theorem AddsR.inv {u bn : Int} {os os' : List Bk} {bks : List (Int × Int)} {n : Int} {f : Nat} (hf : ((bn - u) % 4294967296) = (f : Int)) (h : AddsR u bn os bks os' n) (hi : BInv f os) (hl : os.length ≤ 16) : BInv f os' ∧ os'.length ≤ 16 := by
  induction h with
  | nil => exact ⟨hi, hl⟩
  | snoc _ h2 ih => exact h2.inv hf ih.1 ih.2
/-- what an acknowledgement does to the board -/
def AckR (s : CS) (os : List Bk) (ack : Int) (bks : List (Int × Int)) (os' : List Bk) (n : Int) : Prop :=
  (flightP s < (ack - s.una) % 4294967296 ∧ os' = os ∧ n = 0) ∨ ((ack - s.una) % 4294967296 ≤ flightP s ∧ AddsR ack s.nxt (advO ((ack - s.una) % 4294967296).toNat os) bks os' n)
structure AS where
  i : Nat
  os : List Bk
  n : Int
  v : Value
  E : List (Nat × Obj)
theorem has_mid {D : List Nat} {w0 w : World} {A B : List (Nat × Obj)} {x y : Nat × Obj} (h : Has D w0 (x :: (A ++ (y :: B))) w) : Has D w0 (x :: y :: A) w :=
  (h.perm (show List.Perm _ ((x :: y :: A) ++ B) from List.Perm.cons _ List.perm_middle)).keep (G := B) ⟨List.Perm.refl _⟩
theorem has_mid2 {D : List Nat} {w0 w : World} {A : List (Nat × Obj)} {x y z : Nat × Obj} (h : Has D w0 (x :: (A ++ [y, z])) w) : Has D w0 (x :: y :: z :: A) w :=
  h.perm (List.Perm.cons _ List.perm_append_comm)
theorem has_ne2 {D : List Nat} {w0 w : World} {A : List (Nat × Obj)} {x y : Nat × Obj} (h : Has D w0 (x :: y :: A) w) : y.1 ≠ x.1 ∧ (∀ z, z ∈ A → z.1 ≠ x.1) ∧ ∀ z, z ∈ A → z.1 ≠ y.1 := by
  have h1 := h.nodup
  simp only [List.map_cons, List.nodup_cons, List.mem_cons, not_or] at h1
  obtain ⟨⟨h2, h3⟩, h4, _⟩ := h1
  exact ⟨fun e => h2 e.symm, fun z hz e => h3 (e ▸ List.mem_map.2 ⟨z, hz, rfl⟩), fun z hz e => h4 (e ▸ List.mem_map.2 ⟨z, hz, rfl⟩)⟩


theorem advanceO_spec (sb : Nat) (bu bn : Int) (a f : Nat) (hf : f ≤ 2147483647) (ha : a ≤ f) (os : List Bk) (hlen : os.length ≤ 16) (hos : BInv f os) (p : Option Addr) (c : Nat) (E : List (Nat × Obj)) (hR : Row (.slice p os.length c) os.length (fl (bkc bu) os) 2 73 E) (hE : ∀ x, x ∈ E → x.1 ≠ sb) :
    SpK Tryz.prog 40 #[.pointer (some ⟨sb, 0, none⟩), .int .u32 ((bu + (a : Int)) % 4294967296)] (Mem E) [(sb, C (bdL bu bn (.slice p os.length c)) 85)] (fun v F' => v = .tuple #[] ∧ ∃ bv' E', Row bv' (advO a os).length (fl (bkc ((bu + (a : Int)) % 4294967296)) (advO a os)) 2 73 E' ∧ F' = (sb, C (bdL ((bu + (a : Int)) % 4294967296) bn bv') 85) :: E') := by
  have := advance_spec sb bu bn ((bu + (a : Int)) % 4294967296) (os.map (Bk.ab bu)) (by rw [List.length_map]; omega) p c E (by rw [List.length_map, fl_ab]; exact hR) hE
  rw [List.length_map, advB_off hf ha hos, List.length_map, fl_ab] at this
  exact this
theorem dupO_spec (cp : Nat) (s : CS) (hs : Ok s) (sb : Nat) (bu bn : Int) (os : List Bk) (hlen : os.length ≤ 16) (p : Option Addr) (c : Nat) (E : List (Nat × Obj)) (hR : Row (.slice p os.length c) os.length (fl (bkc bu) os) 2 73 E) (hcs : cp ≠ sb) (hcE : ∀ x, x ∈ E → x.1 ≠ cp) :
    SpK Tryz.prog 43 #[.pointer (some ⟨cp, 0, none⟩)] (fun w => w.heap[sb]? = some (C (bdL bu bn (.slice p os.length c)) 85) ∧ Mem E w) [(cp, C (encC s (some ⟨sb, 0, none⟩)) 66)] (fun v F' => v = .tuple #[] ∧ F' = [(cp, C (encC (dupP s false (os.map (Bk.ab bu))) (some ⟨sb, 0, none⟩)) 66)]) := by
  have := dupS_spec cp s hs sb bu bn (os.map (Bk.ab bu)) (by rw [List.length_map]; omega) p c E (by rw [List.length_map, fl_ab]; exact hR) hcs hcE
  rw [List.length_map] at this
  exact this

set_option maxHeartbeats 1000000 in
theorem onAckN_spec (cp : Nat) (s : CS) (hs : Ok s) (ack : Int) (hk : U ack) (dup : Bool) (sv : Value) : Sp Tryz.prog 20 #[.pointer (some ⟨cp, 0, none⟩), .int .u32 ack, .bool dup, sv] [(cp, C (encC (s) none) 66)] (fun v F' => v = .tuple #[] ∧ F' = [(cp, C (encC (ackP s true ack dup []) none) 66)]) := by
  refine f_enter (args := [.pointer (some ⟨cp, 0, none⟩), .int .u32 ack, .bool dup, sv]) Tryz.func20 rfl Tryz.ntmps20 rfl ?_
  intro w0 w a hpre hl hh
  have o1 := hs.init; have o2 := hs.maxc; have o3 := hs.bn; have o4 := hs.bd; have o5 := hs.abc; have o6 := hs.dupt; have o7 := hs.mss; have o8 := hs.cwnd; have o9 := hs.ssth; have o10 := hs.credit; have o11 := hs.una; have o12 := hs.nxt; have o13 := hs.phase; have o14 := hs.recov; have o15 := hs.high; have o16 := hs.dups; have o17 := flightP_U s
  simp only [slotsFrom, Nat.reduceAdd] at hl
  refine c_seq ?_
  refine c_region ?_
  refine wl (wl_val hl rfl trivial (r_move hl rfl) ?_)
  clear hl a; intro a hl
  refine wl (wl_val hl rfl trivial (r_move hl rfl) ?_)
  clear hl a; intro a hl
  refine wl (wl_val hl rfl trivial (r_nilCheck hl rfl) ?_)
  clear hl a; intro a hl
  refine wl (wl_val hl rfl trivial (r_field hl rfl fld66_6) ?_)
  clear hl a; intro a hl
  refine wl (w_load hl hh rfl trivial one29 rfl (by repeat (first | exact find_head | apply find_tail)) (by first | rfl) ?_)
  clear hl a; intro a hl
  refine wl (wl_val hl rfl trivial (r_subM wm_u32 hl rfl rfl) ?_)
  clear hl a; intro a hl
  refine wl (wl_val hl rfl trivial (r_assign hl rfl) ?_)
  clear hl a; intro a hl
  refine w_nil ?_
  have hl2 := hl.add (t := 0) (hl.add (t := 1) (hl.add (t := 2) (hl.add (t := 3) (hl.add (t := 8) (hl.nil) rfl) rfl) rfl) rfl) rfl; clear hl; have hl := hl2; clear hl2
  refine then_normal ?_
  refine c_seq ?_
  refine c_seq ?_
  refine c_region ?_
  refine wl (wl_val hl rfl trivial (r_move hl rfl) ?_)
  clear hl a; intro a hl
  refine wl (wl_val hl rfl trivial (r_move hl rfl) ?_)
  clear hl a; intro a hl
  refine wl (w_call hl hh rfl trivial rfl cal33 rfl (flight_spec cp s none) (by repeat (first | exact keeps_nil | apply keeps_cons (by repeat (first | exact find_head | apply find_tail)) (by first  | rfl) | exact keeps_self | apply keeps_mv)) (hh.mem _ _ (Find.mem (by repeat (first | exact find_head | apply find_tail)))) ?_)
  clear hl hh a w; intro vc Fc a w hR hl hh
  obtain ⟨rfl, rfl⟩ := hR
  try simp only [List.cons_append, List.nil_append] at hh
  refine wl (wl_val hl rfl trivial (r_gtr hl rfl rfl) ?_)
  clear hl a; intro a hl
  refine w_nil ?_
  have hl2 := hl.add (t := 0) (hl.add (t := 1) (hl.add (t := 2) (hl.add (t := 3) (hl.add (t := 8) (hl.add (t := 21) (hl.nil) rfl) rfl) rfl) rfl) rfl) rfl; clear hl; have hl := hl2; clear hl2
  refine then_normal ?_
  refine c_cond hl rfl ?_ ?_
  · intro hc0
    try simp only [decide_eq_true_eq, decide_eq_false_iff_not, Bool.not_eq_true', Bool.not_eq_false', Bool.not_eq_true, Bool.not_eq_false, Bool.and_eq_true, Bool.or_eq_true, Bool.and_eq_false_iff, Bool.or_eq_false_iff, Bool.not_not, ne_eq, Int.not_lt, Int.not_le, Decidable.not_not, beq_iff_eq, bne_iff_ne] at hc0
    refine wp_ret ?_
    refine then_ret ?_
    refine f_ret0 (F' := [(cp, C (encC (ackP s true ack dup []) none) 66)]) hl hh rfl (by repeat (first | exact keeps_nil | apply keeps_cons (by repeat (first | exact find_head | apply find_tail)) (by first  | (have h9 := ackP_1 (s := s) (ns := true) (ack := ack) (dup := dup) (bl := []) (by assumption); exact blk_eq (congrArg (fun z => encC z none) h9.symm)) | (have h9 := ackP_2 (s := s) (ns := true) (ack := ack) (dup := dup) (bl := []) (by assumption) (by assumption); exact blk_eq (congrArg (fun z => encC z none) h9.symm)) | (have h9 := ackP_3 (s := s) (ns := true) (ack := ack) (dup := dup) (bl := []) (by assumption) (by assumption) (by assumption); exact blk_eq (congrArg (fun z => encC z none) h9.symm)) | (have h9 := ackP_4 (s := s) (ns := true) (ack := ack) (dup := dup) (bl := []) (by assumption) (by assumption); exact blk_eq (congrArg (fun z => encC z none) h9.symm)) | (have h9 := ackP_5 (s := s) (ns := true) (ack := ack) (dup := dup) (bl := []) (by assumption) (by assumption); exact blk_eq (congrArg (fun z => encC z none) h9.symm)) | rfl) | exact keeps_self | apply keeps_mv)) ?_
    exact ⟨rfl, rfl⟩
  · intro hc0
    try simp only [decide_eq_true_eq, decide_eq_false_iff_not, Bool.not_eq_true', Bool.not_eq_false', Bool.not_eq_true, Bool.not_eq_false, Bool.and_eq_true, Bool.or_eq_true, Bool.and_eq_false_iff, Bool.or_eq_false_iff, Bool.not_not, ne_eq, Int.not_lt, Int.not_le, Decidable.not_not, beq_iff_eq, bne_iff_ne] at hc0
    refine wp_skip ?_
    refine then_normal ?_
    refine c_seq ?_
    refine c_seq ?_
    refine c_region ?_
    refine wl (wl_val hl rfl trivial (r_move hl rfl) ?_)
    clear hl a; intro a hl
    refine wl (wl_val hl rfl trivial (r_nilCheck hl rfl) ?_)
    clear hl a; intro a hl
    refine wl (wl_val hl rfl trivial (r_field hl rfl fld66_2) ?_)
    clear hl a; intro a hl
    refine wl (w_load hl hh rfl trivial one64 rfl (by repeat (first | exact find_head | apply find_tail)) (by first | rfl) ?_)
    clear hl a; intro a hl
    refine wl (wl_val hl rfl trivial (r_neq_pointer hl rfl rfl ptr64) ?_)
    clear hl a; intro a hl
    refine w_nil ?_
    have hl2 := hl.add (t := 0) (hl.add (t := 1) (hl.add (t := 2) (hl.add (t := 3) (hl.add (t := 8) (hl.add (t := 26) (hl.nil) rfl) rfl) rfl) rfl) rfl) rfl; clear hl; have hl := hl2; clear hl2
    refine then_normal ?_
    refine c_cond hl rfl ?_ ?_
    · intro hc1
      try simp only [decide_eq_true_eq, decide_eq_false_iff_not, Bool.not_eq_true', Bool.not_eq_false', Bool.not_eq_true, Bool.not_eq_false, Bool.and_eq_true, Bool.or_eq_true, Bool.and_eq_false_iff, Bool.or_eq_false_iff, Bool.not_not, ne_eq, Int.not_lt, Int.not_le, Decidable.not_not, beq_iff_eq, bne_iff_ne] at hc1
      exfalso; first | contradiction | omega | (simp at *; done)
    · intro hc1
      try simp only [decide_eq_true_eq, decide_eq_false_iff_not, Bool.not_eq_true', Bool.not_eq_false', Bool.not_eq_true, Bool.not_eq_false, Bool.and_eq_true, Bool.or_eq_true, Bool.and_eq_false_iff, Bool.or_eq_false_iff, Bool.not_not, ne_eq, Int.not_lt, Int.not_le, Decidable.not_not, beq_iff_eq, bne_iff_ne] at hc1
      refine wp_skip ?_
      refine then_normal ?_
      refine wp_block ?_
      refine c_seq ?_
      refine c_region ?_
      refine wl (wl_val hl rfl trivial (r_move hl rfl) ?_)
      clear hl a; intro a hl
      refine wl (wl_val hl rfl trivial (r_gtr hl rfl rfl) ?_)
      clear hl a; intro a hl
      refine wl (wl_val hl rfl trivial (r_assign hl rfl) ?_)
      clear hl a; intro a hl
      refine w_nil ?_
      have hl2 := hl.add (t := 0) (hl.add (t := 1) (hl.add (t := 2) (hl.add (t := 8) (hl.add (t := 50) (hl.nil) rfl) rfl) rfl) rfl) rfl; clear hl; have hl := hl2; clear hl2
      refine then_normal ?_
      refine c_cond hl rfl ?_ ?_
      · intro hc3
        try simp only [decide_eq_true_eq, decide_eq_false_iff_not, Bool.not_eq_true', Bool.not_eq_false', Bool.not_eq_true, Bool.not_eq_false, Bool.and_eq_true, Bool.or_eq_true, Bool.and_eq_false_iff, Bool.or_eq_false_iff, Bool.not_not, ne_eq, Int.not_lt, Int.not_le, Decidable.not_not, beq_iff_eq, bne_iff_ne] at hc3
        refine c_region ?_
        refine wl (wl_val hl rfl trivial (r_move hl rfl) ?_)
        clear hl a; intro a hl
        refine wl (wl_val hl rfl trivial (r_move hl rfl) ?_)
        clear hl a; intro a hl
        refine wl (wl_val hl rfl trivial (r_move hl rfl) ?_)
        clear hl a; intro a hl
        refine wl (w_call hl hh rfl trivial rfl cal42 rfl (adv_spec cp s none hs ack ((ack - s.una) % 4294967296) hk ⟨by omega, by omega⟩) (by repeat (first | exact keeps_nil | apply keeps_cons (by repeat (first | exact find_head | apply find_tail)) (by first  | rfl) | exact keeps_self | apply keeps_mv)) trivial ?_)
        clear hl hh a w; intro vc Fc a w hR hl hh
        obtain ⟨rfl, rfl⟩ := hR
        try simp only [List.cons_append, List.nil_append] at hh
        refine w_nil ?_
        have hl2 := hl.nil; clear hl; have hl := hl2; clear hl2
        refine blk_normal ?_
        refine f_end0 (F' := [(cp, C (encC (ackP s true ack dup []) none) 66)]) hl hh rfl (by repeat (first | exact keeps_nil | apply keeps_cons (by repeat (first | exact find_head | apply find_tail)) (by first  | (have h9 := ackP_1 (s := s) (ns := true) (ack := ack) (dup := dup) (bl := []) (by assumption); exact blk_eq (congrArg (fun z => encC z none) h9.symm)) | (have h9 := ackP_2 (s := s) (ns := true) (ack := ack) (dup := dup) (bl := []) (by assumption) (by assumption); exact blk_eq (congrArg (fun z => encC z none) h9.symm)) | (have h9 := ackP_3 (s := s) (ns := true) (ack := ack) (dup := dup) (bl := []) (by assumption) (by assumption) (by assumption); exact blk_eq (congrArg (fun z => encC z none) h9.symm)) | (have h9 := ackP_4 (s := s) (ns := true) (ack := ack) (dup := dup) (bl := []) (by assumption) (by assumption); exact blk_eq (congrArg (fun z => encC z none) h9.symm)) | (have h9 := ackP_5 (s := s) (ns := true) (ack := ack) (dup := dup) (bl := []) (by assumption) (by assumption); exact blk_eq (congrArg (fun z => encC z none) h9.symm)) | rfl) | exact keeps_self | apply keeps_mv)) ?_
        exact ⟨rfl, rfl⟩
      · intro hc3
        try simp only [decide_eq_true_eq, decide_eq_false_iff_not, Bool.not_eq_true', Bool.not_eq_false', Bool.not_eq_true, Bool.not_eq_false, Bool.and_eq_true, Bool.or_eq_true, Bool.and_eq_false_iff, Bool.or_eq_false_iff, Bool.not_not, ne_eq, Int.not_lt, Int.not_le, Decidable.not_not, beq_iff_eq, bne_iff_ne] at hc3
        refine c_seq ?_
        refine c_region ?_
        refine wl (wl_val hl rfl trivial (r_move hl rfl) ?_)
        clear hl a; intro a hl
        refine wl (wl_val hl rfl trivial (r_move hl rfl) ?_)
        clear hl a; intro a hl
        refine sl_split (t := 59) hl rfl ?_ ?_
        · intro hg1; clear hl; intro hl
          try simp only [decide_eq_true_eq, decide_eq_false_iff_not, Bool.not_eq_true', Bool.not_eq_false', Bool.not_eq_true, Bool.not_eq_false, Bool.and_eq_true, Bool.or_eq_true, Bool.and_eq_false_iff, Bool.or_eq_false_iff, Bool.not_not, ne_eq, Int.not_lt, Int.not_le, Decidable.not_not, beq_iff_eq, bne_iff_ne] at hg1
          refine wl (wl_val hl rfl ⟨_, _, rfl, rfl, rfl⟩ (r_move hl rfl) ?_)
          clear hl a; intro a hl
          refine wl (w_call hl hh rfl ⟨_, _, rfl, rfl, rfl⟩ rfl cal33 rfl (flight_spec cp s none) (by repeat (first | exact keeps_nil | apply keeps_cons (by repeat (first | exact find_head | apply find_tail)) (by first  | rfl) | exact keeps_self | apply keeps_mv)) (hh.mem _ _ (Find.mem (by repeat (first | exact find_head | apply find_tail)))) ?_)
          clear hl hh a w; intro vc Fc a w hR hl hh
          obtain ⟨rfl, rfl⟩ := hR
          try simp only [List.cons_append, List.nil_append] at hh
          refine wl (wl_val hl rfl ⟨_, _, rfl, rfl, rfl⟩ (r_gtr hl rfl rfl) ?_)
          clear hl a; intro a hl
          refine wl (wl_val hl rfl trivial (r_pickT hl rfl rfl) ?_)
          clear hl a; intro a hl
          refine wl (wl_val hl rfl trivial (r_assign hl rfl) ?_)
          clear hl a; intro a hl
          refine w_nil ?_
          have hl2 := hl.add (t := 0) (hl.add (t := 57) (hl.nil) rfl) rfl; clear hl; have hl := hl2; clear hl2
          refine then_normal ?_
          refine c_cond hl rfl ?_ ?_
          · intro hc4
            try simp only [decide_eq_true_eq, decide_eq_false_iff_not, Bool.not_eq_true', Bool.not_eq_false', Bool.not_eq_true, Bool.not_eq_false, Bool.and_eq_true, Bool.or_eq_true, Bool.and_eq_false_iff, Bool.or_eq_false_iff, Bool.not_not, ne_eq, Int.not_lt, Int.not_le, Decidable.not_not, beq_iff_eq, bne_iff_ne] at hc4
            refine c_region ?_
            refine wl (wl_val hl rfl trivial (r_move hl rfl) ?_)
            clear hl a; intro a hl
            refine wl (w_call hl hh rfl trivial rfl cal43 rfl (dupN_spec cp s hs []) (by repeat (first | exact keeps_nil | apply keeps_cons (by repeat (first | exact find_head | apply find_tail)) (by first  | rfl) | exact keeps_self | apply keeps_mv)) trivial ?_)
            clear hl hh a w; intro vc Fc a w hR hl hh
            obtain ⟨rfl, rfl⟩ := hR
            try simp only [List.cons_append, List.nil_append] at hh
            refine w_nil ?_
            have hl2 := hl.nil; clear hl; have hl := hl2; clear hl2
            refine blk_normal ?_
            refine f_end0 (F' := [(cp, C (encC (ackP s true ack dup []) none) 66)]) hl hh rfl (by repeat (first | exact keeps_nil | apply keeps_cons (by repeat (first | exact find_head | apply find_tail)) (by first  | (have h9 := ackP_1 (s := s) (ns := true) (ack := ack) (dup := dup) (bl := []) (by assumption); exact blk_eq (congrArg (fun z => encC z none) h9.symm)) | (have h9 := ackP_2 (s := s) (ns := true) (ack := ack) (dup := dup) (bl := []) (by assumption) (by assumption); exact blk_eq (congrArg (fun z => encC z none) h9.symm)) | (have h9 := ackP_3 (s := s) (ns := true) (ack := ack) (dup := dup) (bl := []) (by assumption) (by assumption) (by assumption); exact blk_eq (congrArg (fun z => encC z none) h9.symm)) | (have h9 := ackP_4 (s := s) (ns := true) (ack := ack) (dup := dup) (bl := []) (by assumption) (by assumption); exact blk_eq (congrArg (fun z => encC z none) h9.symm)) | (have h9 := ackP_5 (s := s) (ns := true) (ack := ack) (dup := dup) (bl := []) (by assumption) (by assumption); exact blk_eq (congrArg (fun z => encC z none) h9.symm)) | rfl) | exact keeps_self | apply keeps_mv)) ?_
            exact ⟨rfl, rfl⟩
          · intro hc4
            try simp only [decide_eq_true_eq, decide_eq_false_iff_not, Bool.not_eq_true', Bool.not_eq_false', Bool.not_eq_true, Bool.not_eq_false, Bool.and_eq_true, Bool.or_eq_true, Bool.and_eq_false_iff, Bool.or_eq_false_iff, Bool.not_not, ne_eq, Int.not_lt, Int.not_le, Decidable.not_not, beq_iff_eq, bne_iff_ne] at hc4
            refine wp_skip ?_
            refine blk_normal ?_
            refine f_end0 (F' := [(cp, C (encC (ackP s true ack dup []) none) 66)]) hl hh rfl (by repeat (first | exact keeps_nil | apply keeps_cons (by repeat (first | exact find_head | apply find_tail)) (by first  | (have h9 := ackP_1 (s := s) (ns := true) (ack := ack) (dup := dup) (bl := []) (by assumption); exact blk_eq (congrArg (fun z => encC z none) h9.symm)) | (have h9 := ackP_2 (s := s) (ns := true) (ack := ack) (dup := dup) (bl := []) (by assumption) (by assumption); exact blk_eq (congrArg (fun z => encC z none) h9.symm)) | (have h9 := ackP_3 (s := s) (ns := true) (ack := ack) (dup := dup) (bl := []) (by assumption) (by assumption) (by assumption); exact blk_eq (congrArg (fun z => encC z none) h9.symm)) | (have h9 := ackP_4 (s := s) (ns := true) (ack := ack) (dup := dup) (bl := []) (by assumption) (by assumption); exact blk_eq (congrArg (fun z => encC z none) h9.symm)) | (have h9 := ackP_5 (s := s) (ns := true) (ack := ack) (dup := dup) (bl := []) (by assumption) (by assumption); exact blk_eq (congrArg (fun z => encC z none) h9.symm)) | rfl) | exact keeps_self | apply keeps_mv)) ?_
            exact ⟨rfl, rfl⟩
        · intro hg1; clear hl; intro hl
          try simp only [decide_eq_true_eq, decide_eq_false_iff_not, Bool.not_eq_true', Bool.not_eq_false', Bool.not_eq_true, Bool.not_eq_false, Bool.and_eq_true, Bool.or_eq_true, Bool.and_eq_false_iff, Bool.or_eq_false_iff, Bool.not_not, ne_eq, Int.not_lt, Int.not_le, Decidable.not_not, beq_iff_eq, bne_iff_ne] at hg1
          refine wl (wl_skip hl rfl ⟨_, _, rfl, rfl, rfl⟩ ?_)
          clear hl a; intro a hl
          refine wl (wl_skip hl rfl ⟨_, _, rfl, rfl, rfl⟩ ?_)
          clear hl a; intro a hl
          refine wl (wl_skip hl rfl ⟨_, _, rfl, rfl, rfl⟩ ?_)
          clear hl a; intro a hl
          refine wl (wl_val hl rfl trivial (r_pickF hl rfl rfl) ?_)
          clear hl a; intro a hl
          refine wl (wl_val hl rfl trivial (r_assign hl rfl) ?_)
          clear hl a; intro a hl
          refine w_nil ?_
          have hl2 := hl.add (t := 0) (hl.add (t := 57) (hl.nil) rfl) rfl; clear hl; have hl := hl2; clear hl2
          refine then_normal ?_
          refine c_condF hl rfl ?_
          refine wp_skip ?_
          refine blk_normal ?_
          refine f_end0 (F' := [(cp, C (encC (ackP s true ack dup []) none) 66)]) hl hh rfl (by repeat (first | exact keeps_nil | apply keeps_cons (by repeat (first | exact find_head | apply find_tail)) (by first  | (have h9 := ackP_1 (s := s) (ns := true) (ack := ack) (dup := dup) (bl := []) (by assumption); exact blk_eq (congrArg (fun z => encC z none) h9.symm)) | (have h9 := ackP_2 (s := s) (ns := true) (ack := ack) (dup := dup) (bl := []) (by assumption) (by assumption); exact blk_eq (congrArg (fun z => encC z none) h9.symm)) | (have h9 := ackP_3 (s := s) (ns := true) (ack := ack) (dup := dup) (bl := []) (by assumption) (by assumption) (by assumption); exact blk_eq (congrArg (fun z => encC z none) h9.symm)) | (have h9 := ackP_4 (s := s) (ns := true) (ack := ack) (dup := dup) (bl := []) (by assumption) (by assumption); exact blk_eq (congrArg (fun z => encC z none) h9.symm)) | (have h9 := ackP_5 (s := s) (ns := true) (ack := ack) (dup := dup) (bl := []) (by assumption) (by assumption); exact blk_eq (congrArg (fun z => encC z none) h9.symm)) | rfl) | exact keeps_self | apply keeps_mv)) ?_
          exact ⟨rfl, rfl⟩

set_option maxHeartbeats 4000000 in
theorem onAckS_spec (cp : Nat) (s : CS) (hs : Ok s) (hf : flightP s ≤ 2147483647) (sb : Nat) (os : List Bk) (hlen : os.length ≤ 16) (p : Option Addr) (c : Nat) (E : List (Nat × Obj)) (hR : Row (.slice p os.length c) os.length (fl (bkc s.una) os) 2 73 E) (hos : BInv (flightP s).toNat os) (ack : Int) (hk : U ack) (dup : Bool) (bks : List (Int × Int)) (hbk : bks.length ≤ 100000) (pS : Option Addr) (cS : Nat) (Es : List (Nat × Obj)) (hRs : Row (.slice pS bks.length cS) bks.length (fl pc bks) 2 73 Es) (hdis : ∀ x, x ∈ Es → x.1 ∉ List.map Prod.fst ((cp, C (encC (s) (some ⟨sb, 0, none⟩)) 66) :: (sb, C (bdL (s.una) (s.nxt) (.slice p os.length c)) 85) :: E)) : SpK Tryz.prog 20 #[.pointer (some ⟨cp, 0, none⟩), .int .u32 ack, .bool dup, .slice pS bks.length cS] (Mem Es) ((cp, C (encC (s) (some ⟨sb, 0, none⟩)) 66) :: (sb, C (bdL (s.una) (s.nxt) (.slice p os.length c)) 85) :: E) (fun v F' => v = .tuple #[] ∧ ∃ os' n bv' E', AckR s os ack bks os' n ∧ Row bv' os'.length (fl (bkc (ackP s false ack (decide (0 < n)) (os'.map (Bk.ab ack))).una) os') 2 73 E' ∧ F' = (cp, C (encC (ackP s false ack (decide (0 < n)) (os'.map (Bk.ab ack))) (some ⟨sb, 0, none⟩)) 66) :: (sb, C (bdL (ackP s false ack (decide (0 < n)) (os'.map (Bk.ab ack))).una (ackP s false ack (decide (0 < n)) (os'.map (Bk.ab ack))).nxt bv') 85) :: E') := by
  refine f_enter (args := [.pointer (some ⟨cp, 0, none⟩), .int .u32 ack, .bool dup, .slice pS bks.length cS]) Tryz.func20 rfl Tryz.ntmps20 rfl ?_
  intro w0 w a hpre hl hh
  have o1 := hs.init; have o2 := hs.maxc; have o3 := hs.bn; have o4 := hs.bd; have o5 := hs.abc; have o6 := hs.dupt; have o7 := hs.mss; have o8 := hs.cwnd; have o9 := hs.ssth; have o10 := hs.credit; have o11 := hs.una; have o12 := hs.nxt; have o13 := hs.phase; have o14 := hs.recov; have o15 := hs.high; have o16 := hs.dups; have o17 := flightP_U s
  obtain ⟨hne1, hEc, hEsb⟩ := has_ne2 hh
  have hak : 0 ≤ ((ack - s.una) % 4294967296) := by omega
  have hack : (s.una + ((((ack - s.una) % 4294967296).toNat : Nat) : Int)) % 4294967296 = ack := by omega
  simp only [slotsFrom, Nat.reduceAdd] at hl
  refine c_seq ?_
  refine c_region ?_
  refine wl (wl_val hl rfl trivial (r_move hl rfl) ?_)
  clear hl a; intro a hl
  refine wl (wl_val hl rfl trivial (r_move hl rfl) ?_)
  clear hl a; intro a hl
  refine wl (wl_val hl rfl trivial (r_nilCheck hl rfl) ?_)
  clear hl a; intro a hl
  refine wl (wl_val hl rfl trivial (r_field hl rfl fld66_6) ?_)
  clear hl a; intro a hl
  refine wl (w_load hl hh rfl trivial one29 rfl (by repeat (first | exact find_head | apply find_tail)) (by first | rfl) ?_)
  clear hl a; intro a hl
  refine wl (wl_val hl rfl trivial (r_subM wm_u32 hl rfl rfl) ?_)
  clear hl a; intro a hl
  refine wl (wl_val hl rfl trivial (r_assign hl rfl) ?_)
  clear hl a; intro a hl
  refine w_nil ?_
  have hl2 := hl.add (t := 0) (hl.add (t := 1) (hl.add (t := 2) (hl.add (t := 3) (hl.add (t := 8) (hl.nil) rfl) rfl) rfl) rfl) rfl; clear hl; have hl := hl2; clear hl2
  refine then_normal ?_
  refine c_seq ?_
  refine c_seq ?_
  refine c_region ?_
  refine wl (wl_val hl rfl trivial (r_move hl rfl) ?_)
  clear hl a; intro a hl
  refine wl (wl_val hl rfl trivial (r_move hl rfl) ?_)
  clear hl a; intro a hl
  refine wl (w_call hl hh rfl trivial rfl cal33 rfl (flight_spec cp s (some ⟨sb, 0, none⟩)) (by repeat (first | exact keeps_nil | apply keeps_cons (by repeat (first | exact find_head | apply find_tail)) (by first  | rfl) | exact keeps_self | exact keeps_left | exact keeps_right | exact keeps_swap | apply keeps_mv)) (hh.mem _ _ (Find.mem (by repeat (first | exact find_head | apply find_tail)))) ?_)
  clear hl hh a w; intro vc Fc a w hR hl hh
  obtain ⟨rfl, rfl⟩ := hR
  try simp only [List.cons_append, List.nil_append] at hh
  refine wl (wl_val hl rfl trivial (r_gtr hl rfl rfl) ?_)
  clear hl a; intro a hl
  refine w_nil ?_
  have hl2 := hl.add (t := 0) (hl.add (t := 1) (hl.add (t := 2) (hl.add (t := 3) (hl.add (t := 8) (hl.add (t := 21) (hl.nil) rfl) rfl) rfl) rfl) rfl) rfl; clear hl; have hl := hl2; clear hl2
  refine then_normal ?_
  refine c_cond hl rfl ?_ ?_
  · intro hc0
    try simp only [decide_eq_true_eq, decide_eq_false_iff_not, Bool.not_eq_true', Bool.not_eq_false', Bool.not_eq_true, Bool.not_eq_false, Bool.and_eq_true, Bool.or_eq_true, Bool.and_eq_false_iff, Bool.or_eq_false_iff, Bool.not_not, ne_eq, Int.not_lt, Int.not_le, Decidable.not_not, beq_iff_eq, bne_iff_ne] at hc0
    have h9 := ackP_1 (s := s) (ns := false) (ack := ack) (dup := (decide (0 < (0 : Int)))) (bl := (os.map (Bk.ab ack))) hc0
    refine wp_ret ?_
    refine then_ret ?_
    refine f_ret0 (F' := (cp, C (encC ((ackP s false ack (decide (0 < (0 : Int))) (os.map (Bk.ab ack)))) (some ⟨sb, 0, none⟩)) 66) :: (sb, C (bdL ((ackP s false ack (decide (0 < (0 : Int))) (os.map (Bk.ab ack))).una) ((ackP s false ack (decide (0 < (0 : Int))) (os.map (Bk.ab ack))).nxt) (.slice p os.length c)) 85) :: E) hl hh rfl (by repeat (first | exact keeps_nil | apply keeps_cons (by repeat (first | exact find_head | apply find_tail)) (by first  | exact blk_eq (congrArg (fun z => encC z (some ⟨sb, 0, none⟩)) h9.symm) | exact blk_eq (bdL_eq (congrArg CS.una h9).symm (congrArg CS.nxt h9).symm) | rfl) | exact keeps_self | exact keeps_left | exact keeps_right | exact keeps_swap | apply keeps_mv)) ?_
    exact ⟨rfl, os, 0, _, E, .inl ⟨hc0, rfl, rfl⟩, (by rw [h9]; exact hR), rfl⟩
  · intro hc0
    try simp only [decide_eq_true_eq, decide_eq_false_iff_not, Bool.not_eq_true', Bool.not_eq_false', Bool.not_eq_true, Bool.not_eq_false, Bool.and_eq_true, Bool.or_eq_true, Bool.and_eq_false_iff, Bool.or_eq_false_iff, Bool.not_not, ne_eq, Int.not_lt, Int.not_le, Decidable.not_not, beq_iff_eq, bne_iff_ne] at hc0
    have hadv := advanceO_spec sb s.una s.nxt ((ack - s.una) % 4294967296).toNat (flightP s).toNat (by omega) (by omega) os hlen hos p c E hR hEsb
    rw [hack] at hadv
    have hfa : (s.nxt - ack) % 4294967296 = (((flightP s).toNat - ((ack - s.una) % 4294967296).toNat : Nat) : Int) := by unfold flightP at hc0 ⊢; omega
    refine wp_skip ?_
    refine then_normal ?_
    refine c_seq ?_
    refine c_seq ?_
    refine c_region ?_
    refine wl (wl_val hl rfl trivial (r_move hl rfl) ?_)
    clear hl a; intro a hl
    refine wl (wl_val hl rfl trivial (r_nilCheck hl rfl) ?_)
    clear hl a; intro a hl
    refine wl (wl_val hl rfl trivial (r_field hl rfl fld66_2) ?_)
    clear hl a; intro a hl
    refine wl (w_load hl hh rfl trivial one64 rfl (by repeat (first | exact find_head | apply find_tail)) (by first | rfl) ?_)
    clear hl a; intro a hl
    refine wl (wl_val hl rfl trivial (r_neq_pointer hl rfl rfl ptr64) ?_)
    clear hl a; intro a hl
    refine w_nil ?_
    have hl2 := hl.add (t := 0) (hl.add (t := 1) (hl.add (t := 2) (hl.add (t := 3) (hl.add (t := 8) (hl.add (t := 26) (hl.nil) rfl) rfl) rfl) rfl) rfl) rfl; clear hl; have hl := hl2; clear hl2
    refine then_normal ?_
    refine c_cond hl rfl ?_ ?_
    · intro hc1
      try simp only [decide_eq_true_eq, decide_eq_false_iff_not, Bool.not_eq_true', Bool.not_eq_false', Bool.not_eq_true, Bool.not_eq_false, Bool.and_eq_true, Bool.or_eq_true, Bool.and_eq_false_iff, Bool.or_eq_false_iff, Bool.not_not, ne_eq, Int.not_lt, Int.not_le, Decidable.not_not, beq_iff_eq, bne_iff_ne] at hc1
      refine c_seq ?_
      refine c_region ?_
      refine wl (wl_val hl rfl trivial (r_move hl rfl) ?_)
      clear hl a; intro a hl
      refine wl (wl_val hl rfl trivial (r_nilCheck hl rfl) ?_)
      clear hl a; intro a hl
      refine wl (wl_val hl rfl trivial (r_field hl rfl fld66_2) ?_)
      clear hl a; intro a hl
      refine wl (w_load hl hh rfl trivial one64 rfl (by repeat (first | exact find_head | apply find_tail)) (by first | rfl) ?_)
      clear hl a; intro a hl
      refine wl (wl_val hl rfl trivial (r_move hl rfl) ?_)
      clear hl a; intro a hl
      refine wl (w_call hl hh rfl trivial rfl cal40 rfl (hadv) (by repeat (first | exact keeps_nil | apply keeps_cons (by repeat (first | exact find_head | apply find_tail)) (by first  | rfl) | exact keeps_self | exact keeps_left | exact keeps_right | exact keeps_swap | apply keeps_mv)) (fun b o m => hh.mem b o (by simp [m])) ?_)
      clear hl hh a w; intro vc Fc a w hR hl hh
      obtain ⟨rfl, bv1, E1, hR1, rfl⟩ := hR
      try simp only [List.cons_append, List.nil_append] at hh
      replace hh := has_mid hh
      refine w_nil ?_
      have hl2 := hl.add (t := 0) (hl.add (t := 1) (hl.add (t := 3) (hl.add (t := 8) (hl.nil) rfl) rfl) rfl) rfl; clear hl; have hl := hl2; clear hl2
      refine then_normal ?_
      refine c_seq ?_
      refine c_region ?_
      refine wl (wl_val hl rfl trivial (r_assign hl rfl) ?_)
      clear hl a; intro a hl
      refine w_nil ?_
      have hl2 := hl.add (t := 0) (hl.add (t := 1) (hl.add (t := 3) (hl.add (t := 8) (hl.add (t := 9) (hl.nil) rfl) rfl) rfl) rfl) rfl; clear hl; have hl := hl2; clear hl2
      refine then_normal ?_
      refine c_seq ?_
      refine c_seq ?_
      refine c_region ?_
      refine wl (wl_val hl rfl trivial (r_move hl rfl) ?_)
      clear hl a; intro a hl
      refine wl (wl_val hl rfl trivial (r_lenS hl rfl slc48) ?_)
      clear hl a; intro a hl
      refine wl (wl_val hl rfl trivial (r_move hl rfl) ?_)
      clear hl a; intro a hl
      refine w_nil ?_
      have hl2 := hl.add (t := 0) (hl.add (t := 1) (hl.add (t := 8) (hl.add (t := 9) (hl.add (t := 33) (hl.add (t := 34) (hl.add (t := 35) (hl.nil) rfl) rfl) rfl) rfl) rfl) rfl) rfl; clear hl; have hl := hl2; clear hl2
      refine then_normal ?_
      refine wp_block ?_
      obtain ⟨KS0, hKS0, hk⟩ := (hl.add (t := 0) (hl.add (t := 1) (hl.add (t := 8) (hl.add (t := 33) (hl.add (t := 34) (hl.nil) rfl) rfl) rfl) rfl) rfl).name
      obtain ⟨HS0, hHS0, hh2⟩ := hh.nameT (A := [(sb, C (bdL ack s.nxt bv1) 85)]) (U := E1) (keeps_cons (b := sb) (o' := C (bdL ack s.nxt bv1) 85) (by repeat (first | exact find_head | apply find_tail)) (by first | rfl) ((by repeat (first | exact keeps_nil | exact keeps_self | exact keeps_swap | apply keeps_mv))))
      refine c_loop (α := AS) (fun z => bks.length - z.i) (fun z a w => (z.i ≤ bks.length ∧ AddsR ack s.nxt (advO ((ack - s.una) % 4294967296).toNat os) (bks.take z.i) z.os z.n ∧ Row z.v z.os.length (fl (bkc ack) z.os) 2 73 z.E ∧ BInv ((flightP s).toNat - ((ack - s.una) % 4294967296).toNat) z.os ∧ z.os.length ≤ 16) ∧ Sl 66 ([(35, .int .i64 (z.i : Int)), (9, .int .u32 z.n)] ++ KS0) a ∧ Has _ w0 ([(sb, C (bdL ack s.nxt z.v) 85)] ++ (HS0 ++ z.E)) w) ⟨0, advO ((ack - s.una) % 4294967296).toNat os, 0, bv1, E1⟩ ⟨⟨Nat.zero_le _, AddsR.nil, hR1, advO_inv (by omega) hos, Nat.le_trans (advO_len _ _) hlen⟩, hl.addE (t := 35) (hl.addE (t := 9) (hk) rfl (by first | rfl)) rfl (by first | rfl), hh2⟩ ?_
      clear hk hh2 hl hh a w
      intro z a w hI
      obtain ⟨⟨hi, hA, hrow, hbi, hl16⟩, hl, hh⟩ := hI
      subst hKS0; subst hHS0
      simp only [List.cons_append, List.nil_append, List.append_nil] at hl hh
      obtain ⟨i, os1, n, bv2, E2⟩ := z
      simp only at hi hA hrow hbi hl16 hl hh
      refine c_seq ?_
      refine c_region ?_
      refine wl (wl_val hl rfl trivial (r_lss hl rfl rfl) ?_)
      clear hl a; intro a hl
      refine w_nil ?_
      have hl2 := hl.add (t := 0) (hl.add (t := 1) (hl.add (t := 8) (hl.add (t := 9) (hl.add (t := 33) (hl.add (t := 34) (hl.add (t := 35) (hl.add (t := 36) (hl.nil) rfl) rfl) rfl) rfl) rfl) rfl) rfl) rfl; clear hl; have hl := hl2; clear hl2
      refine then_normal ?_
      refine c_seq ?_
      refine c_cond hl rfl ?_ ?_
      · intro hc2
        try simp only [decide_eq_true_eq, decide_eq_false_iff_not, Bool.not_eq_true', Bool.not_eq_false', Bool.not_eq_true, Bool.not_eq_false, Bool.and_eq_true, Bool.or_eq_true, Bool.and_eq_false_iff, Bool.or_eq_false_iff, Bool.not_not, ne_eq, Int.not_lt, Int.not_le, Decidable.not_not, beq_iff_eq, bne_iff_ne] at hc2
        obtain ⟨q, hq⟩ : ∃ q, bks[i]? = some q := ⟨_, List.getElem?_eq_getElem (by omega)⟩
        obtain ⟨b, junk, rfl, hjl, hjc, rfl⟩ := row_pos hRs (by omega)
        have hm : w0.heap[b]? = some (C (fl pc bks ++ junk) 73) := hpre _ _ (List.mem_singleton.2 rfl)
        have hrd := fl_at pc_len hq junk
        simp only [pc] at hrd
        have hni := hdis _ (List.mem_singleton.2 rfl)
        obtain ⟨p3, c3, hv3⟩ := row_val hrow
        subst hv3
        refine wp_skip ?_
        refine then_normal ?_
        refine c_seq ?_
        refine wp_block ?_
        refine c_seq ?_
        refine c_region ?_
        refine wl (wl_val hl rfl trivial (r_indexS hl rfl rfl slc48 (by omega) (by omega) (by first | (simp only [Int.reduceToNat]; rfl) | exact toNat_add1 _ | exact toNat_add2 _ _ | exact toNat_emod _ _ | exact Int.toNat_natCast _ | rfl)) ?_)
        clear hl a; intro a hl
        first | refine wl (w_loadA hl hh rfl trivial agg73 rfl (by repeat (first | exact find_head | apply find_tail)) (by first | (simp only [List.getElem?_cons_zero, List.getElem?_cons_succ, Value.cells, List.take_zero, List.take_succ_cons, List.take_nil, List.drop_zero, List.drop_succ_cons, List.drop_nil, List.length_cons, List.length_nil, List.cons_append, List.nil_append, List.append_nil, Nat.zero_add, Nat.add_zero, Nat.reduceAdd, Nat.reduceBEq, Nat.reduceEqDiff, Nat.ble, BEq.rfl, Bool.and_true, Bool.and_self, cond_true, beq_self_eq_true]; rfl)) (by first | rfl | (simp; done)) ?_) | refine wl (w_loadRA hl hh rfl trivial agg73 rfl hm hni hrd rfl ?_)
        clear hl a; intro a hl
        refine wl (w_alloc hl hh rfl trivial zero73 rfl ?_)
        clear hl hh a w; intro k11 a w hl hh
        refine wl (w_storeA hl hh trivial agg73 rfl rfl (by repeat (first | exact find_head | apply find_tail)) (by first | rfl | (simp; done)) (by first | (simp; done) | (simp; omega)) (by first | rfl | (simp; done)) (by first | (simp only [encC, setL, List.getElem?_cons_zero, List.getElem?_cons_succ, Value.cells, List.take_zero, List.take_succ_cons, List.take_nil, List.drop_zero, List.drop_succ_cons, List.drop_nil, List.length_cons, List.length_nil, List.cons_append, List.nil_append, List.append_nil, Nat.zero_add, Nat.add_zero, Nat.reduceAdd, Nat.reduceBEq, Nat.reduceEqDiff, Nat.ble, BEq.rfl, Bool.and_true, Bool.and_self, cond_true, beq_self_eq_true]; rfl) | (simp only [setL, List.getElem?_cons_zero, List.getElem?_cons_succ, Value.cells, List.take_zero, List.take_succ_cons, List.take_nil, List.drop_zero, List.drop_succ_cons, List.drop_nil, List.length_cons, List.length_nil, List.cons_append, List.nil_append, List.append_nil, Nat.zero_add, Nat.add_zero, Nat.reduceAdd, Nat.reduceBEq, Nat.reduceEqDiff, Nat.ble, BEq.rfl, Bool.and_true, Bool.and_self, cond_true, beq_self_eq_true]; rfl)) ?_)
        clear hh w; intro w hh
        refine w_nil ?_
        have hl2 := hl.add (t := 0) (hl.add (t := 1) (hl.add (t := 8) (hl.add (t := 9) (hl.add (t := 11) (hl.add (t := 33) (hl.add (t := 34) (hl.add (t := 35) (hl.nil) rfl) rfl) rfl) rfl) rfl) rfl) rfl) rfl; clear hl; have hl := hl2; clear hl2
        refine then_normal ?_
        refine c_draw [(cp, C (encC (s) (some ⟨sb, 0, none⟩)) 66), (k11, C [.int .u32 q.1, .int .u32 q.2] 73)] [7, 8] mixed hh ?_
        clear hh w; intro w hh
        have hM : Mem [(cp, C (encC (s) (some ⟨sb, 0, none⟩)) 66), (k11, C [.int .u32 q.1, .int .u32 q.2] 73)] w := (by (repeat (first | exact Mem.nil | refine Mem.consR hh (by assumption) (by simp) ?_ | refine Mem.cons hh.mem (by (repeat (first | exact find_head | apply find_tail)); done) ?_ | fail)); done)
        refine d_take (i := 0) hl rfl (by kernel_rfl) (by kernel_rfl) (by kernel_rfl) (by kernel_rfl) (by kernel_rfl) rfl trivial (fun _ _ _ h => h) hM (fun w hC => r_move hl rfl) rfl ?_
        clear hl a; intro a hl
        refine d_take (i := 1) hl rfl (by kernel_rfl) (by kernel_rfl) (by kernel_rfl) (by kernel_rfl) (by kernel_rfl) rfl trivial (fun _ _ _ h => h) hM (fun w hC => r_move hl rfl) rfl ?_
        clear hl a; intro a hl
        refine d_take (i := 2) hl rfl (by kernel_rfl) (by kernel_rfl) (by kernel_rfl) (by kernel_rfl) (by kernel_rfl) rfl trivial (fun _ _ _ h => h) hM (fun w hC => r_nilCheck hl rfl) rfl ?_
        clear hl a; intro a hl
        refine d_take (i := 3) hl rfl (by kernel_rfl) (by kernel_rfl) (by kernel_rfl) (by kernel_rfl) (by kernel_rfl) rfl trivial (fun _ _ _ h => h) hM (fun w hC => r_field hl rfl fld66_2) rfl ?_
        clear hl a; intro a hl
        refine d_take (i := 4) hl rfl (by kernel_rfl) (by kernel_rfl) (by kernel_rfl) (by kernel_rfl) (by kernel_rfl) rfl trivial (fun _ _ _ h => h) hM (fun w hC => r_loadC hl rfl one64 hC (by repeat (first | exact find_head | apply find_tail)) (by first | rfl)) rfl ?_
        clear hl a; intro a hl
        refine d_take (i := 5) hl rfl (by kernel_rfl) (by kernel_rfl) (by kernel_rfl) (by kernel_rfl) (by kernel_rfl) rfl trivial (fun _ _ _ h => h) hM (fun w hC => r_loadCA hl rfl agg73 hC (by repeat (first | exact find_head | apply find_tail)) (by first | (simp only [List.getElem?_cons_zero, List.getElem?_cons_succ, Value.cells, List.take_zero, List.take_succ_cons, List.take_nil, List.drop_zero, List.drop_succ_cons, List.drop_nil, List.length_cons, List.length_nil, List.cons_append, List.nil_append, List.append_nil, Nat.zero_add, Nat.add_zero, Nat.reduceAdd, Nat.reduceBEq, Nat.reduceEqDiff, Nat.ble, BEq.rfl, Bool.and_true, Bool.and_self, cond_true, beq_self_eq_true]; rfl)) (by first | rfl | (simp; done))) rfl ?_
        clear hl a; intro a hl
        refine d_one (i := 6) (by kernel_rfl) rfl ?_
        try clear hM
        refine id (w_call hl hh rfl trivial rfl cal41 rfl (add_spec sb ack s.nxt hk hs.nxt ((flightP s).toNat - ((ack - s.una) % 4294967296).toNat) hfa (by omega) os1 hl16 p3 c3 E2 hrow hbi q) (by repeat (first | exact keeps_nil | apply keeps_cons (by repeat (first | exact find_head | apply find_tail)) (by first  | rfl) | exact keeps_self | exact keeps_left | exact keeps_right | exact keeps_swap | apply keeps_mv)) trivial ?_)
        clear hl hh a w; intro vc Fc a w hR hl hh
        obtain ⟨os2, r, bv3, E3, rfl, hAR, hR3, rfl⟩ := hR
        try simp only [List.cons_append, List.nil_append] at hh
        replace hh := has_mid2 hh
        have hM : Mem [(cp, C (encC (s) (some ⟨sb, 0, none⟩)) 66), (k11, C [.int .u32 q.1, .int .u32 q.2] 73)] w := (by (repeat (first | exact Mem.nil | refine Mem.consR hh (by assumption) (by simp) ?_ | refine Mem.cons hh.mem (by (repeat (first | exact find_head | apply find_tail)); done) ?_ | fail)); done)
        refine d_step (fun _ => hM) ?_
        refine d_takeL (i := 7) hl rfl (by kernel_rfl) (by kernel_rfl) (by kernel_rfl) (by kernel_rfl) (by kernel_rfl) rfl trivial (fun _ _ _ h => h) (fun w => r_addM wm_u32 hl rfl rfl) rfl ?_
        clear hl a; intro a hl
        refine d_takeL (i := 8) hl rfl (by kernel_rfl) (by kernel_rfl) (by kernel_rfl) (by kernel_rfl) (by kernel_rfl) rfl trivial (fun _ _ _ h => h) (fun w => r_assign hl rfl) rfl ?_
        clear hl a; intro a hl
        refine d_done (by kernel_rfl) ?_
        try clear hM
        have hl2 := hl.add (t := 0) (hl.add (t := 1) (hl.add (t := 8) (hl.add (t := 9) (hl.add (t := 33) (hl.add (t := 34) (hl.add (t := 35) (hl.nil) rfl) rfl) rfl) rfl) rfl) rfl) rfl; clear hl; have hl := hl2; clear hl2
        refine blk_normal ?_
        refine then_normal ?_
        refine c_region ?_
        first | refine wl (wl_val hl rfl trivial (r_add hl rfl rfl (by simp only [Fits]; omega)) ?_) | refine wl (wl_val hl rfl trivial (r_addW hl rfl rfl) ?_)
        clear hl a; intro a hl
        refine wl (wl_val hl rfl trivial (r_move hl rfl) ?_)
        clear hl a; intro a hl
        refine w_nil ?_
        have hl2 := hl.add (t := 0) (hl.add (t := 1) (hl.add (t := 8) (hl.add (t := 9) (hl.add (t := 33) (hl.add (t := 34) (hl.add (t := 35) (hl.nil) rfl) rfl) rfl) rfl) rfl) rfl) rfl; clear hl; have hl := hl2; clear hl2
        refine then_normal ?_
        refine ⟨⟨i + 1, os2, (n + r) % 4294967296, bv3, E3⟩, (by simp only; omega), ⟨by simp only; omega, by simp only; rw [List.take_add_one, hq]; exact AddsR.snoc hA hAR, hR3, (hAR.inv hfa hbi hl16).1, (hAR.inv hfa hbi hl16).2⟩, hl.addE (t := 35) (hl.addE (t := 9) (hl.addE (t := 0) (hl.addE (t := 1) (hl.addE (t := 8) (hl.addE (t := 33) (hl.addE (t := 34) (hl.nil) rfl (by first | rfl | exact congrArg (Value.int .i64) (i_succ i))) rfl (by first | rfl | exact congrArg (Value.int .i64) (i_succ i))) rfl (by first | rfl | exact congrArg (Value.int .i64) (i_succ i))) rfl (by first | rfl | exact congrArg (Value.int .i64) (i_succ i))) rfl (by first | rfl | exact congrArg (Value.int .i64) (i_succ i))) rfl (by first | rfl | exact congrArg (Value.int .i64) (i_succ i))) rfl (by first | rfl | exact congrArg (Value.int .i64) (i_succ i)), hh.keep (by repeat (first | exact keeps_nil | apply keeps_cons (by repeat (first | exact find_head | apply find_tail)) (by first  | rfl) | exact keeps_self | exact keeps_left | exact keeps_right | exact keeps_swap | apply keeps_mv))⟩
      · intro hc2
        try simp only [decide_eq_true_eq, decide_eq_false_iff_not, Bool.not_eq_true', Bool.not_eq_false', Bool.not_eq_true, Bool.not_eq_false, Bool.and_eq_true, Bool.or_eq_true, Bool.and_eq_false_iff, Bool.or_eq_false_iff, Bool.not_not, ne_eq, Int.not_lt, Int.not_le, Decidable.not_not, beq_iff_eq, bne_iff_ne] at hc2
        have hie : i = bks.length := by omega
        rw [hie, List.take_length] at hA
        refine wp_exit ?_
        refine then_exit ?_
        refine then_exit ?_
        refine blk_exit ?_
        refine then_normal ?_
        refine c_region ?_
        refine wl (wl_val hl rfl trivial (r_move hl rfl) ?_)
        clear hl a; intro a hl
        refine wl (wl_val hl rfl trivial (r_gtr hl rfl rfl) ?_)
        clear hl a; intro a hl
        refine wl (wl_val hl rfl trivial (r_assign hl rfl) ?_)
        clear hl a; intro a hl
        refine w_nil ?_
        have hl2 := hl.add (t := 0) (hl.add (t := 1) (hl.add (t := 2) (hl.add (t := 8) (hl.nil) rfl) rfl) rfl) rfl; clear hl; have hl := hl2; clear hl2
        refine then_normal ?_
        refine wp_block ?_
        refine c_seq ?_
        refine c_region ?_
        refine wl (wl_val hl rfl trivial (r_move hl rfl) ?_)
        clear hl a; intro a hl
        refine wl (wl_val hl rfl trivial (r_gtr hl rfl rfl) ?_)
        clear hl a; intro a hl
        refine wl (wl_val hl rfl trivial (r_assign hl rfl) ?_)
        clear hl a; intro a hl
        refine w_nil ?_
        have hl2 := hl.add (t := 0) (hl.add (t := 1) (hl.add (t := 2) (hl.add (t := 8) (hl.add (t := 50) (hl.nil) rfl) rfl) rfl) rfl) rfl; clear hl; have hl := hl2; clear hl2
        refine then_normal ?_
        refine c_cond hl rfl ?_ ?_
        · intro hc3
          try simp only [decide_eq_true_eq, decide_eq_false_iff_not, Bool.not_eq_true', Bool.not_eq_false', Bool.not_eq_true, Bool.not_eq_false, Bool.and_eq_true, Bool.or_eq_true, Bool.and_eq_false_iff, Bool.or_eq_false_iff, Bool.not_not, ne_eq, Int.not_lt, Int.not_le, Decidable.not_not, beq_iff_eq, bne_iff_ne] at hc3
          refine c_region ?_
          refine wl (wl_val hl rfl trivial (r_move hl rfl) ?_)
          clear hl a; intro a hl
          refine wl (wl_val hl rfl trivial (r_move hl rfl) ?_)
          clear hl a; intro a hl
          refine wl (wl_val hl rfl trivial (r_move hl rfl) ?_)
          clear hl a; intro a hl
          refine wl (w_call hl hh rfl trivial rfl cal42 rfl (adv_spec cp s (some ⟨sb, 0, none⟩) hs ack ((ack - s.una) % 4294967296) hk ⟨by omega, by omega⟩) (by repeat (first | exact keeps_nil | apply keeps_cons (by repeat (first | exact find_head | apply find_tail)) (by first  | rfl) | exact keeps_self | exact keeps_left | exact keeps_right | exact keeps_swap | apply keeps_mv)) trivial ?_)
          clear hl hh a w; intro vc Fc a w hR hl hh
          obtain ⟨rfl, rfl⟩ := hR
          try simp only [List.cons_append, List.nil_append] at hh
          refine w_nil ?_
          have hl2 := hl.nil; clear hl; have hl := hl2; clear hl2
          refine blk_normal ?_
          refine f_end0 (F' := (cp, C (encC ((ackP s false ack (decide (0 < n)) (os1.map (Bk.ab ack)))) (some ⟨sb, 0, none⟩)) 66) :: (sb, C (bdL ((ackP s false ack (decide (0 < n)) (os1.map (Bk.ab ack))).una) ((ackP s false ack (decide (0 < n)) (os1.map (Bk.ab ack))).nxt) (_)) 85) :: E2) hl hh rfl (by repeat (first | exact keeps_nil | apply keeps_cons (by repeat (first | exact find_head | apply find_tail)) (by first  | (have h9 := ackP_2 (s := s) (ns := false) (ack := ack) (dup := (decide (0 < n))) (bl := (os1.map (Bk.ab ack))) (by assumption) (by assumption); exact blk_eq (congrArg (fun z => encC z (some ⟨sb, 0, none⟩)) h9.symm)) | (have h9 := ackP_3 (s := s) (ns := false) (ack := ack) (dup := (decide (0 < n))) (bl := (os1.map (Bk.ab ack))) (by assumption) (by simpa using hg1) (by assumption); exact blk_eq (congrArg (fun z => encC z (some ⟨sb, 0, none⟩)) h9.symm)) | (have h9 := ackP_4 (s := s) (ns := false) (ack := ack) (dup := (decide (0 < n))) (bl := (os1.map (Bk.ab ack))) (by assumption) (by assumption); exact blk_eq (congrArg (fun z => encC z (some ⟨sb, 0, none⟩)) h9.symm)) | (have h9 := ackP_5 (s := s) (ns := false) (ack := ack) (dup := (decide (0 < n))) (bl := (os1.map (Bk.ab ack))) (by assumption) (by simpa using hg1); exact blk_eq (congrArg (fun z => encC z (some ⟨sb, 0, none⟩)) h9.symm)) | exact blk_eq (bdL_eq (ackP_una hs.una hk hc0).symm ackP_nxt.symm) | rfl) | exact keeps_self | exact keeps_left | exact keeps_right | exact keeps_swap | apply keeps_mv)) ?_
          exact ⟨rfl, os1, n, _, E2, .inr ⟨hc0, hA⟩, (by rw [ackP_una hs.una hk hc0]; exact hrow), rfl⟩
        · intro hc3
          try simp only [decide_eq_true_eq, decide_eq_false_iff_not, Bool.not_eq_true', Bool.not_eq_false', Bool.not_eq_true, Bool.not_eq_false, Bool.and_eq_true, Bool.or_eq_true, Bool.and_eq_false_iff, Bool.or_eq_false_iff, Bool.not_not, ne_eq, Int.not_lt, Int.not_le, Decidable.not_not, beq_iff_eq, bne_iff_ne] at hc3
          refine c_seq ?_
          refine c_region ?_
          refine wl (wl_val hl rfl trivial (r_move hl rfl) ?_)
          clear hl a; intro a hl
          refine wl (wl_val hl rfl trivial (r_move hl rfl) ?_)
          clear hl a; intro a hl
          refine sl_split (t := 59) hl rfl ?_ ?_
          · intro hg1; clear hl; intro hl
            try simp only [decide_eq_true_eq, decide_eq_false_iff_not, Bool.not_eq_true', Bool.not_eq_false', Bool.not_eq_true, Bool.not_eq_false, Bool.and_eq_true, Bool.or_eq_true, Bool.and_eq_false_iff, Bool.or_eq_false_iff, Bool.not_not, ne_eq, Int.not_lt, Int.not_le, Decidable.not_not, beq_iff_eq, bne_iff_ne] at hg1
            refine wl (wl_val hl rfl ⟨_, _, rfl, rfl, rfl⟩ (r_move hl rfl) ?_)
            clear hl a; intro a hl
            refine wl (w_call hl hh rfl ⟨_, _, rfl, rfl, rfl⟩ rfl cal33 rfl (flight_spec cp s (some ⟨sb, 0, none⟩)) (by repeat (first | exact keeps_nil | apply keeps_cons (by repeat (first | exact find_head | apply find_tail)) (by first  | rfl) | exact keeps_self | exact keeps_left | exact keeps_right | exact keeps_swap | apply keeps_mv)) (hh.mem _ _ (Find.mem (by repeat (first | exact find_head | apply find_tail)))) ?_)
            clear hl hh a w; intro vc Fc a w hR hl hh
            obtain ⟨rfl, rfl⟩ := hR
            try simp only [List.cons_append, List.nil_append] at hh
            refine wl (wl_val hl rfl ⟨_, _, rfl, rfl, rfl⟩ (r_gtr hl rfl rfl) ?_)
            clear hl a; intro a hl
            refine wl (wl_val hl rfl trivial (r_pickT hl rfl rfl) ?_)
            clear hl a; intro a hl
            refine wl (wl_val hl rfl trivial (r_assign hl rfl) ?_)
            clear hl a; intro a hl
            refine w_nil ?_
            have hl2 := hl.add (t := 0) (hl.add (t := 57) (hl.nil) rfl) rfl; clear hl; have hl := hl2; clear hl2
            refine then_normal ?_
            refine c_cond hl rfl ?_ ?_
            · intro hc4
              try simp only [decide_eq_true_eq, decide_eq_false_iff_not, Bool.not_eq_true', Bool.not_eq_false', Bool.not_eq_true, Bool.not_eq_false, Bool.and_eq_true, Bool.or_eq_true, Bool.and_eq_false_iff, Bool.or_eq_false_iff, Bool.not_not, ne_eq, Int.not_lt, Int.not_le, Decidable.not_not, beq_iff_eq, bne_iff_ne] at hc4
              refine c_region ?_
              refine wl (wl_val hl rfl trivial (r_move hl rfl) ?_)
              clear hl a; intro a hl
              obtain ⟨p3, c3, hv3⟩ := row_val hrow
              subst hv3
              have hcs : cp ≠ sb := fun e => hne1 e.symm
              have hcE : ∀ x, x ∈ E2 → x.1 ≠ cp := (has_ne2 (hh.keep (F' := (cp, C (encC (s) (some ⟨sb, 0, none⟩)) 66) :: (sb, C (bdL (ack) (s.nxt) (.slice p3 os1.length c3)) 85) :: E2) (keeps_cons (by repeat (first | exact find_head | apply find_tail)) rfl (keeps_cons (by repeat (first | exact find_head | apply find_tail)) rfl keeps_self)))).2.1
              refine wl (w_call hl hh rfl trivial rfl cal43 rfl (dupO_spec cp s hs sb ack s.nxt os1 hl16 p3 c3 E2 hrow hcs hcE) (by repeat (first | exact keeps_nil | apply keeps_cons (by repeat (first | exact find_head | apply find_tail)) (by first  | rfl) | exact keeps_self | exact keeps_left | exact keeps_right | exact keeps_swap | apply keeps_mv)) ⟨(hh.mem _ _ (Find.mem (by repeat (first | exact find_head | apply find_tail)))), fun b o m => hh.mem b o (by simp [m])⟩ ?_)
              clear hl hh a w; intro vc Fc a w hR hl hh
              obtain ⟨rfl, rfl⟩ := hR
              try simp only [List.cons_append, List.nil_append] at hh
              refine w_nil ?_
              have hl2 := hl.nil; clear hl; have hl := hl2; clear hl2
              refine blk_normal ?_
              refine f_end0 (F' := (cp, C (encC ((ackP s false ack (decide (0 < n)) (os1.map (Bk.ab ack)))) (some ⟨sb, 0, none⟩)) 66) :: (sb, C (bdL ((ackP s false ack (decide (0 < n)) (os1.map (Bk.ab ack))).una) ((ackP s false ack (decide (0 < n)) (os1.map (Bk.ab ack))).nxt) (_)) 85) :: E2) hl hh rfl (by repeat (first | exact keeps_nil | apply keeps_cons (by repeat (first | exact find_head | apply find_tail)) (by first  | (have h9 := ackP_2 (s := s) (ns := false) (ack := ack) (dup := (decide (0 < n))) (bl := (os1.map (Bk.ab ack))) (by assumption) (by assumption); exact blk_eq (congrArg (fun z => encC z (some ⟨sb, 0, none⟩)) h9.symm)) | (have h9 := ackP_3 (s := s) (ns := false) (ack := ack) (dup := (decide (0 < n))) (bl := (os1.map (Bk.ab ack))) (by assumption) (by simpa using hg1) (by assumption); exact blk_eq (congrArg (fun z => encC z (some ⟨sb, 0, none⟩)) h9.symm)) | (have h9 := ackP_4 (s := s) (ns := false) (ack := ack) (dup := (decide (0 < n))) (bl := (os1.map (Bk.ab ack))) (by assumption) (by assumption); exact blk_eq (congrArg (fun z => encC z (some ⟨sb, 0, none⟩)) h9.symm)) | (have h9 := ackP_5 (s := s) (ns := false) (ack := ack) (dup := (decide (0 < n))) (bl := (os1.map (Bk.ab ack))) (by assumption) (by simpa using hg1); exact blk_eq (congrArg (fun z => encC z (some ⟨sb, 0, none⟩)) h9.symm)) | exact blk_eq (bdL_eq (ackP_una hs.una hk hc0).symm ackP_nxt.symm) | rfl) | exact keeps_self | exact keeps_left | exact keeps_right | exact keeps_swap | apply keeps_mv)) ?_
              exact ⟨rfl, os1, n, _, E2, .inr ⟨hc0, hA⟩, (by rw [ackP_una hs.una hk hc0]; exact hrow), rfl⟩
            · intro hc4
              try simp only [decide_eq_true_eq, decide_eq_false_iff_not, Bool.not_eq_true', Bool.not_eq_false', Bool.not_eq_true, Bool.not_eq_false, Bool.and_eq_true, Bool.or_eq_true, Bool.and_eq_false_iff, Bool.or_eq_false_iff, Bool.not_not, ne_eq, Int.not_lt, Int.not_le, Decidable.not_not, beq_iff_eq, bne_iff_ne] at hc4
              refine wp_skip ?_
              refine blk_normal ?_
              refine f_end0 (F' := (cp, C (encC ((ackP s false ack (decide (0 < n)) (os1.map (Bk.ab ack)))) (some ⟨sb, 0, none⟩)) 66) :: (sb, C (bdL ((ackP s false ack (decide (0 < n)) (os1.map (Bk.ab ack))).una) ((ackP s false ack (decide (0 < n)) (os1.map (Bk.ab ack))).nxt) (_)) 85) :: E2) hl hh rfl (by repeat (first | exact keeps_nil | apply keeps_cons (by repeat (first | exact find_head | apply find_tail)) (by first  | (have h9 := ackP_2 (s := s) (ns := false) (ack := ack) (dup := (decide (0 < n))) (bl := (os1.map (Bk.ab ack))) (by assumption) (by assumption); exact blk_eq (congrArg (fun z => encC z (some ⟨sb, 0, none⟩)) h9.symm)) | (have h9 := ackP_3 (s := s) (ns := false) (ack := ack) (dup := (decide (0 < n))) (bl := (os1.map (Bk.ab ack))) (by assumption) (by simpa using hg1) (by assumption); exact blk_eq (congrArg (fun z => encC z (some ⟨sb, 0, none⟩)) h9.symm)) | (have h9 := ackP_4 (s := s) (ns := false) (ack := ack) (dup := (decide (0 < n))) (bl := (os1.map (Bk.ab ack))) (by assumption) (by assumption); exact blk_eq (congrArg (fun z => encC z (some ⟨sb, 0, none⟩)) h9.symm)) | (have h9 := ackP_5 (s := s) (ns := false) (ack := ack) (dup := (decide (0 < n))) (bl := (os1.map (Bk.ab ack))) (by assumption) (by simpa using hg1); exact blk_eq (congrArg (fun z => encC z (some ⟨sb, 0, none⟩)) h9.symm)) | exact blk_eq (bdL_eq (ackP_una hs.una hk hc0).symm ackP_nxt.symm) | rfl) | exact keeps_self | exact keeps_left | exact keeps_right | exact keeps_swap | apply keeps_mv)) ?_
              exact ⟨rfl, os1, n, _, E2, .inr ⟨hc0, hA⟩, (by rw [ackP_una hs.una hk hc0]; exact hrow), rfl⟩
          · intro hg1; clear hl; intro hl
            try simp only [decide_eq_true_eq, decide_eq_false_iff_not, Bool.not_eq_true', Bool.not_eq_false', Bool.not_eq_true, Bool.not_eq_false, Bool.and_eq_true, Bool.or_eq_true, Bool.and_eq_false_iff, Bool.or_eq_false_iff, Bool.not_not, ne_eq, Int.not_lt, Int.not_le, Decidable.not_not, beq_iff_eq, bne_iff_ne] at hg1
            refine wl (wl_skip hl rfl ⟨_, _, rfl, rfl, rfl⟩ ?_)
            clear hl a; intro a hl
            refine wl (wl_skip hl rfl ⟨_, _, rfl, rfl, rfl⟩ ?_)
            clear hl a; intro a hl
            refine wl (wl_skip hl rfl ⟨_, _, rfl, rfl, rfl⟩ ?_)
            clear hl a; intro a hl
            refine wl (wl_val hl rfl trivial (r_pickF hl rfl rfl) ?_)
            clear hl a; intro a hl
            refine wl (wl_val hl rfl trivial (r_assign hl rfl) ?_)
            clear hl a; intro a hl
            refine w_nil ?_
            have hl2 := hl.add (t := 0) (hl.add (t := 57) (hl.nil) rfl) rfl; clear hl; have hl := hl2; clear hl2
            refine then_normal ?_
            refine c_condF hl rfl ?_
            refine wp_skip ?_
            refine blk_normal ?_
            refine f_end0 (F' := (cp, C (encC ((ackP s false ack (decide (0 < n)) (os1.map (Bk.ab ack)))) (some ⟨sb, 0, none⟩)) 66) :: (sb, C (bdL ((ackP s false ack (decide (0 < n)) (os1.map (Bk.ab ack))).una) ((ackP s false ack (decide (0 < n)) (os1.map (Bk.ab ack))).nxt) (_)) 85) :: E2) hl hh rfl (by repeat (first | exact keeps_nil | apply keeps_cons (by repeat (first | exact find_head | apply find_tail)) (by first  | (have h9 := ackP_2 (s := s) (ns := false) (ack := ack) (dup := (decide (0 < n))) (bl := (os1.map (Bk.ab ack))) (by assumption) (by assumption); exact blk_eq (congrArg (fun z => encC z (some ⟨sb, 0, none⟩)) h9.symm)) | (have h9 := ackP_3 (s := s) (ns := false) (ack := ack) (dup := (decide (0 < n))) (bl := (os1.map (Bk.ab ack))) (by assumption) (by simpa using hg1) (by assumption); exact blk_eq (congrArg (fun z => encC z (some ⟨sb, 0, none⟩)) h9.symm)) | (have h9 := ackP_4 (s := s) (ns := false) (ack := ack) (dup := (decide (0 < n))) (bl := (os1.map (Bk.ab ack))) (by assumption) (by assumption); exact blk_eq (congrArg (fun z => encC z (some ⟨sb, 0, none⟩)) h9.symm)) | (have h9 := ackP_5 (s := s) (ns := false) (ack := ack) (dup := (decide (0 < n))) (bl := (os1.map (Bk.ab ack))) (by assumption) (by simpa using hg1); exact blk_eq (congrArg (fun z => encC z (some ⟨sb, 0, none⟩)) h9.symm)) | exact blk_eq (bdL_eq (ackP_una hs.una hk hc0).symm ackP_nxt.symm) | rfl) | exact keeps_self | exact keeps_left | exact keeps_right | exact keeps_swap | apply keeps_mv)) ?_
            exact ⟨rfl, os1, n, _, E2, .inr ⟨hc0, hA⟩, (by rw [ackP_una hs.una hk hc0]; exact hrow), rfl⟩
    · intro hc1
      try simp only [decide_eq_true_eq, decide_eq_false_iff_not, Bool.not_eq_true', Bool.not_eq_false', Bool.not_eq_true, Bool.not_eq_false, Bool.and_eq_true, Bool.or_eq_true, Bool.and_eq_false_iff, Bool.or_eq_false_iff, Bool.not_not, ne_eq, Int.not_lt, Int.not_le, Decidable.not_not, beq_iff_eq, bne_iff_ne] at hc1
      exfalso; first | contradiction | omega | (simp at *; done)
end Go.Proofs.Qxb6500912aGreatDoor

import Derived.Test.Qxb6500907aN8
namespace Go.Proofs.Qxb6500907a
open Go.Eng
set_option linter.unusedVariables false
set_option linter.unusedSimpArgs false

/-- the state of a play -/
structure YS where
  i : Nat
  rv : Nat → Value
  av : Nat → Value
  P : Pl
  mv : Value
  ms : List Ch
  Em : List (Nat × Obj)
  iid : Int
  iv : Value
  is : List Ch
  ap : Bool
  Z : List (Nat × Obj)
def YS.tail (s : YS) : List (Nat × Obj) := s.Em ++ s.Z
structure YI (I : Pl → Prop) (n : Nat) (s : YS) : Prop where
  hi : s.i ≤ n
  net : NetR s.rv s.av s.P s.Z
  ok : POk s.P
  inv : I s.P
  row : Row s.mv s.ms.length (chs s.ms) 12 57 s.Em
  mok : ∀ c, c ∈ s.ms → c.ok
  mlen : s.ms.length ≤ s.i
  irow : ∃ Ei, Row s.iv s.is.length (chs s.is) 12 57 Ei ∧ ∀ x, x ∈ Ei → x ∈ s.Z
  iok : ∀ c, c ∈ s.is → c.ok
  ilen : s.is.length ≤ 1000000
theorem pz_ok : POk pz := ⟨fun d _ i j x y _ h => by simp [pz] at h, fun d _ r h => by simp [pz] at h, fun d _ r h => by simp [pz] at h, fun d _ => by simp [pz], fun d _ => by simp [pz], fun d _ => by simp [pz]⟩
theorem pz_net : NetR nilV nilV pz [] := fun d _ => ⟨[], [], Row.nil _ _, Row.nil _ _, fun x hx => by cases hx⟩
theorem YI.start {I : Pl → Prop} (n : Nat) (h : I pz) : YI I n ⟨0, nilV, nilV, pz, .slice none 0 0, [], [], 0, .slice none 0 0, [], false, []⟩ :=
  ⟨Nat.zero_le _, pz_net, pz_ok, h, Row.nil _ _, (fun c hc => by cases hc), Nat.zero_le _, ⟨[], Row.nil _ _, fun x hx => by cases hx⟩, (fun c hc => by cases hc), Nat.zero_le _⟩
theorem has_push {D : List Nat} {w0 w : World} {Fc A Em Z : List (Nat × Obj)} (h : Has D w0 (Fc ++ (A ++ (Em ++ Z))) w) : Has D w0 (A ++ (Em ++ (Z ++ Fc))) w :=
  h.perm (List.perm_append_comm.trans (by simp [List.append_assoc]))
theorem has_push0 {D : List Nat} {w0 w : World} {Fc A Z : List (Nat × Obj)} (h : Has D w0 (Fc ++ (A ++ Z)) w) : Has D w0 (A ++ (Z ++ Fc)) w :=
  h.perm (List.perm_append_comm.trans (by simp [List.append_assoc]))
theorem has_dropl {D : List Nat} {w0 w : World} {Fc F : List (Nat × Obj)} (h : Has D w0 (Fc ++ F) w) : Has D w0 F w := (h.perm List.perm_append_comm).keep (G := Fc) ⟨List.Perm.refl _⟩
theorem has_swapt {D : List Nat} {w0 w : World} {A Em Z : List (Nat × Obj)} (h : Has D w0 (A ++ (Em ++ Z)) w) : Has D w0 (A ++ (Z ++ Em)) w := h.perm (List.Perm.append_left _ List.perm_append_comm)
theorem steps_keep {P : Pl} {cs : List Ch} {i : Nat} {P1 : Pl} {us : List Ch} {code : Int} (h : steps P (cs.take i) = (P1, us, code)) (hc : code ≠ 0) : ∀ k, steps P (cs.take (i + k)) = (P1, us, code)
  | 0 => h
  | k + 1 => by
    have ih := steps_keep h hc k
    cases hx : cs[i + k]? with
    | none => rw [← Nat.add_assoc, List.take_add_one, hx]; simpa using ih
    | some c => rw [← Nat.add_assoc, take_snoc hx, steps_snoc, ih]; unfold stepS; simp [hc]
theorem ok_not_bad {P P' : Pl} {cs us : List Ch} {code pos : Int} (hc : chk cs) (hs : steps P cs = (P', us, 0)) (hb : RunBad P cs code pos) : False := by
  rcases hb with ⟨h, _⟩ | ⟨_, i, c, P1, us1, _, hci, h1, h2, h3⟩
  · exact h hc
  · have h4 : steps P (cs.take (i + 1)) = (P1, us1, code) := by
      rw [take_snoc hci, steps_snoc, h1]; unfold stepS; simp [h2, h3]
    have hi := (List.getElem?_eq_some_iff.1 hci).1
    have h5 := steps_keep h4 h3 (cs.length - (i + 1))
    rw [show i + 1 + (cs.length - (i + 1)) = cs.length by omega, List.take_length, hs] at h5
    injection h5 with _ h5
    injection h5 with _ h5
    exact h3 h5.symm
theorem steps_fun {P P1 P2 : Pl} {cs us1 us2 : List Ch} (h1 : steps P cs = (P1, us1, 0)) (h2 : steps P cs = (P2, us2, 0)) : P1 = P2 := by
  rw [h1] at h2; injection h2
abbrev EachH (fid : FuncId) (I : Pl → Prop) : Prop := ∀ (idv : Int) (rv av : Nat → Value) (P : Pl) (Z : List (Nat × Obj)) (hN : NetR rv av P Z) (hP : POk P) (hI : I P) (p : Option Addr) (cap : Nat) (cs : List Ch) (Ec : List (Nat × Obj)) (hR : Row (.slice p cs.length cap) cs.length (chs cs) 12 57 Ec) (hEc : ∀ x, x ∈ Ec → x ∈ Z) (hok : ∀ c, c ∈ cs → c.ok) (hlen : cs.length ≤ 1000000),
  SpK Try.prog fid #[.agg ⟨arrL 64 (nvF rv av P)⟩, .agg ⟨[.int .u32 idv, .slice p cs.length cap]⟩] (Mem Z) [] (fun u F' => u = .bool true)


set_option maxHeartbeats 1000000 in
theorem small2_spec (sb : Nat) (c : List Value) (T : TypeId) (fr : Nat × Nat) (p : Option Addr) (n cap : Nat) (ops : List DO) (hn : n = ops.length) (hlen : n ≤ 9223372036854775807) (h : DOps sb c p cap ops) : SpK Try.prog 8 #[.slice p n cap] (DIn sb c T fr ops) [] (fun v F' => (∃ t, v = .bool t ∧ (t = true → n ≤ 65536)) ∧ F' = []) := by
  refine f_enter (args := [.slice p n cap]) Try.func8 rfl Try.ntmps8 rfl ?_
  intro w0 w a hpre hl hh
  simp only [slotsFrom, Nat.reduceAdd] at hl
  refine c_seq ?_
  refine c_region ?_
  refine wl (wl_val hl rfl trivial (r_assign hl rfl) ?_)
  clear hl a; intro a hl
  refine w_nil ?_
  have hl2 := hl.add (t := 0) (hl.nil) rfl; clear hl; have hl := hl2; clear hl2
  refine then_normal ?_
  refine c_seq ?_
  refine c_region ?_
  refine wl (wl_val hl rfl trivial (r_move hl rfl) ?_)
  clear hl a; intro a hl
  refine wl (wl_val hl rfl trivial (r_lenS hl rfl slc22) ?_)
  clear hl a; intro a hl
  refine wl (wl_val hl rfl trivial (r_assign hl rfl) ?_)
  clear hl a; intro a hl
  refine w_nil ?_
  have hl2 := hl.add (t := 0) (hl.add (t := 3) (hl.nil) rfl) rfl; clear hl; have hl := hl2; clear hl2
  refine then_normal ?_
  refine c_seq ?_
  refine c_seq ?_
  refine c_region ?_
  refine wl (wl_val hl rfl trivial (r_move hl rfl) ?_)
  clear hl a; intro a hl
  refine wl (wl_val hl rfl trivial (r_gtr hl rfl rfl) ?_)
  clear hl a; intro a hl
  refine w_nil ?_
  have hl2 := hl.add (t := 0) (hl.add (t := 3) (hl.add (t := 8) (hl.nil) rfl) rfl) rfl; clear hl; have hl := hl2; clear hl2
  refine then_normal ?_
  refine c_cond hl rfl ?_ ?_
  · intro hc0
    try simp only [decide_eq_true_eq, decide_eq_false_iff_not, Bool.not_eq_true', Bool.not_eq_false', Bool.not_eq_true, Bool.not_eq_false, Bool.and_eq_true, Bool.or_eq_true, Bool.and_eq_false_iff, Bool.or_eq_false_iff, Bool.not_not, ne_eq, Int.not_lt, Int.not_le, Decidable.not_not, beq_iff_eq, bne_iff_ne] at hc0
    refine c_seq ?_
    refine c_region ?_
    refine wl (wl_val hl rfl trivial (r_assign hl rfl) ?_)
    clear hl a; intro a hl
    refine w_nil ?_
    have hl2 := hl.add (t := 2) (hl.nil) rfl; clear hl; have hl := hl2; clear hl2
    refine then_normal ?_
    refine wp_ret ?_
    refine then_ret ?_
    refine f_ret1 (F' := []) hl hh rfl rfl (by repeat (first | exact keeps_nil | apply keeps_cons (by repeat (first | exact find_head | apply find_tail)) (by first  | rfl) | exact keeps_self | apply keeps_mv)) ?_
    first | exact ⟨⟨_, rfl, fun h => Bool.noConfusion h⟩, rfl⟩ | exact ⟨⟨_, rfl, fun _ => by omega⟩, rfl⟩
  · intro hc0
    try simp only [decide_eq_true_eq, decide_eq_false_iff_not, Bool.not_eq_true', Bool.not_eq_false', Bool.not_eq_true, Bool.not_eq_false, Bool.and_eq_true, Bool.or_eq_true, Bool.and_eq_false_iff, Bool.or_eq_false_iff, Bool.not_not, ne_eq, Int.not_lt, Int.not_le, Decidable.not_not, beq_iff_eq, bne_iff_ne] at hc0
    refine wp_skip ?_
    refine then_normal ?_
    refine c_seq ?_
    refine c_seq ?_
    refine c_region ?_
    refine wl (wl_val hl rfl trivial (r_assign hl rfl) ?_)
    clear hl a; intro a hl
    refine w_nil ?_
    have hl2 := hl.add (t := 0) (hl.add (t := 3) (hl.add (t := 4) (hl.nil) rfl) rfl) rfl; clear hl; have hl := hl2; clear hl2
    refine then_normal ?_
    refine wp_block ?_
    obtain ⟨KS0, hKS0, hk⟩ := (hl.add (t := 0) (hl.nil) rfl).name
    obtain ⟨HS0, hHS0, hh2⟩ := hh.name (keeps_nil)
    refine c_loop (α := Nat × Int) (fun s => n - s.1) (fun s a w => (s.1 ≤ n) ∧ Sl 25 ([(4, .int .i64 s.1), (3, .int .i64 s.2)] ++ KS0) a ∧ Has _ w0 ([] ++ HS0) w) (0, (n : Int)) ⟨(by simp), hl.addE (t := 4) (hl.addE (t := 3) (hk) rfl (by first | rfl)) rfl (by first | rfl), hh2⟩ ?_
    clear hk hh2 hl hh a w
    intro s a w hI
    obtain ⟨hi, hl, hh⟩ := hI
    subst hKS0; subst hHS0
    simp only [List.cons_append, List.nil_append, List.append_nil] at hl hh
    obtain ⟨i, acc⟩ := s
    simp only at hi hl
    refine c_seq ?_
    refine c_seq ?_
    refine c_region ?_
    refine wl (wl_val hl rfl trivial (r_move hl rfl) ?_)
    clear hl a; intro a hl
    refine wl (wl_val hl rfl trivial (r_move hl rfl) ?_)
    clear hl a; intro a hl
    refine wl (wl_val hl rfl trivial (r_lenS hl rfl slc22) ?_)
    clear hl a; intro a hl
    refine wl (wl_val hl rfl trivial (r_lss hl rfl rfl) ?_)
    clear hl a; intro a hl
    refine w_nil ?_
    have hl2 := hl.add (t := 0) (hl.add (t := 3) (hl.add (t := 4) (hl.add (t := 12) (hl.nil) rfl) rfl) rfl) rfl; clear hl; have hl := hl2; clear hl2
    refine then_normal ?_
    refine c_cond hl rfl ?_ ?_
    · intro hc1
      try simp only [decide_eq_true_eq, decide_eq_false_iff_not, Bool.not_eq_true', Bool.not_eq_false', Bool.not_eq_true, Bool.not_eq_false, Bool.and_eq_true, Bool.or_eq_true, Bool.and_eq_false_iff, Bool.or_eq_false_iff, Bool.not_not, ne_eq, Int.not_lt, Int.not_le, Decidable.not_not, beq_iff_eq, bne_iff_ne] at hc1
      obtain ⟨so, rfl, hat⟩ := h.at_ (by omega)
      obtain ⟨d, hd⟩ : ∃ d, ops[i]? = some d := ⟨_, List.getElem?_eq_getElem (by omega)⟩
      have hqv := hat i d hd
      have hdm := List.mem_of_getElem? hd
      have hdok := h.ok d hdm
      have hm := hpre.1 (by omega)
      have hms := hpre.2 d hdm
      obtain ⟨dkd, did, ⟨ckd, cdv, cpr, cix, cup, cra, crl, cvia, cpm, cda, cdl, ccl⟩, dp, dN, dcap, dSc⟩ := d
      simp only [DO.vals] at hqv
      have hsrc := hdok.src
      simp only at hsrc hms
      refine wp_skip ?_
      refine then_normal ?_
      refine c_seq ?_
      refine wp_block ?_
      refine c_seq ?_
      refine c_region ?_
      refine wl (wl_val hl rfl trivial (r_move hl rfl) ?_)
      clear hl a; intro a hl
      refine wl (wl_val hl rfl trivial (r_move hl rfl) ?_)
      clear hl a; intro a hl
      refine wl (wl_val hl rfl trivial (r_move hl rfl) ?_)
      clear hl a; intro a hl
      refine wl (wl_val hl rfl trivial (r_indexS hl rfl rfl slc22 (by omega) (by omega) (by first | (simp only [Int.reduceToNat]; rfl) | exact toNat_add1 _ | exact toNat_add2 _ _ | exact toNat_emod _ _ | exact Int.toNat_natCast _ | rfl)) ?_)
      clear hl a; intro a hl
      refine wl (wl_val hl rfl trivial (r_field hl rfl fld59_3) ?_)
      clear hl a; intro a hl
      first | refine wl (w_load hl hh rfl trivial one41 rfl (by repeat (first | exact find_head | apply find_tail)) (by first | rfl) ?_) | refine wl (w_loadR hl hh rfl trivial one41 rfl hm (by simp) (getElem?_of_take hqv (k := 14) rfl) ?_)
      clear hl a; intro a hl
      refine wl (wl_val hl rfl trivial (r_lenS hl rfl slc41) ?_)
      clear hl a; intro a hl
      refine wl (wl_val hl rfl trivial (r_addW hl rfl rfl) ?_)
      clear hl a; intro a hl
      refine wl (wl_val hl rfl trivial (r_assign hl rfl) ?_)
      clear hl a; intro a hl
      refine w_nil ?_
      have hl2 := hl.add (t := 0) (hl.add (t := 3) (hl.add (t := 4) (hl.nil) rfl) rfl) rfl; clear hl; have hl := hl2; clear hl2
      refine then_normal ?_
      refine c_seq ?_
      refine c_region ?_
      refine wl (wl_val hl rfl trivial (r_move hl rfl) ?_)
      clear hl a; intro a hl
      refine wl (wl_val hl rfl trivial (r_gtr hl rfl rfl) ?_)
      clear hl a; intro a hl
      refine w_nil ?_
      have hl2 := hl.add (t := 0) (hl.add (t := 3) (hl.add (t := 4) (hl.add (t := 24) (hl.nil) rfl) rfl) rfl) rfl; clear hl; have hl := hl2; clear hl2
      refine then_normal ?_
      refine c_cond hl rfl ?_ ?_
      · intro hc2
        try simp only [decide_eq_true_eq, decide_eq_false_iff_not, Bool.not_eq_true', Bool.not_eq_false', Bool.not_eq_true, Bool.not_eq_false, Bool.and_eq_true, Bool.or_eq_true, Bool.and_eq_false_iff, Bool.or_eq_false_iff, Bool.not_not, ne_eq, Int.not_lt, Int.not_le, Decidable.not_not, beq_iff_eq, bne_iff_ne] at hc2
        refine c_seq ?_
        refine c_region ?_
        refine wl (wl_val hl rfl trivial (r_assign hl rfl) ?_)
        clear hl a; intro a hl
        refine w_nil ?_
        have hl2 := hl.add (t := 2) (hl.nil) rfl; clear hl; have hl := hl2; clear hl2
        refine then_normal ?_
        refine wp_ret ?_
        refine blk_ret ?_
        refine then_ret ?_
        refine then_ret ?_
        refine blk_ret ?_
        refine then_ret ?_
        refine f_ret1 (F' := []) hl hh rfl rfl (by repeat (first | exact keeps_nil | apply keeps_cons (by repeat (first | exact find_head | apply find_tail)) (by first  | rfl) | exact keeps_self | apply keeps_mv)) ?_
        first | exact ⟨⟨_, rfl, fun h => Bool.noConfusion h⟩, rfl⟩ | exact ⟨⟨_, rfl, fun _ => by omega⟩, rfl⟩
      · intro hc2
        try simp only [decide_eq_true_eq, decide_eq_false_iff_not, Bool.not_eq_true', Bool.not_eq_false', Bool.not_eq_true, Bool.not_eq_false, Bool.and_eq_true, Bool.or_eq_true, Bool.and_eq_false_iff, Bool.or_eq_false_iff, Bool.not_not, ne_eq, Int.not_lt, Int.not_le, Decidable.not_not, beq_iff_eq, bne_iff_ne] at hc2
        refine wp_skip ?_
        refine blk_normal ?_
        refine then_normal ?_
        refine c_region ?_
        refine wl (wl_val hl rfl trivial (r_move hl rfl) ?_)
        clear hl a; intro a hl
        first | refine wl (wl_val hl rfl trivial (r_add hl rfl rfl (by simp only [Fits]; omega)) ?_) | refine wl (wl_val hl rfl trivial (r_addW hl rfl rfl) ?_)
        clear hl a; intro a hl
        refine wl (wl_val hl rfl trivial (r_assign hl rfl) ?_)
        clear hl a; intro a hl
        refine w_nil ?_
        have hl2 := hl.add (t := 0) (hl.add (t := 3) (hl.add (t := 4) (hl.nil) rfl) rfl) rfl; clear hl; have hl := hl2; clear hl2
        refine then_normal ?_
        refine ⟨(i + 1, IntKind.i64.wrap (acc + dN)), (by simp only; omega), (by simp only; omega), hl.addE (t := 4) (hl.addE (t := 3) (hl.addE (t := 0) (hl.nil) rfl (by first | rfl | rfl)) rfl (by first | rfl | rfl)) rfl (by first | rfl | rfl), hh.keep (by repeat (first | exact keeps_nil | apply keeps_cons (by repeat (first | exact find_head | apply find_tail)) (by first  | rfl) | exact keeps_self | apply keeps_mv))⟩
    · intro hc1
      try simp only [decide_eq_true_eq, decide_eq_false_iff_not, Bool.not_eq_true', Bool.not_eq_false', Bool.not_eq_true, Bool.not_eq_false, Bool.and_eq_true, Bool.or_eq_true, Bool.and_eq_false_iff, Bool.or_eq_false_iff, Bool.not_not, ne_eq, Int.not_lt, Int.not_le, Decidable.not_not, beq_iff_eq, bne_iff_ne] at hc1
      refine wp_exit ?_
      refine then_exit ?_
      refine then_exit ?_
      refine blk_exit ?_
      refine then_normal ?_
      refine c_seq ?_
      refine c_region ?_
      refine wl (wl_val hl rfl trivial (r_assign hl rfl) ?_)
      clear hl a; intro a hl
      refine w_nil ?_
      have hl2 := hl.add (t := 2) (hl.nil) rfl; clear hl; have hl := hl2; clear hl2
      refine then_normal ?_
      refine wp_ret ?_
      refine f_ret1 (F' := []) hl hh rfl rfl (by repeat (first | exact keeps_nil | apply keeps_cons (by repeat (first | exact find_head | apply find_tail)) (by first  | rfl) | exact keeps_self | apply keeps_mv)) ?_
      first | exact ⟨⟨_, rfl, fun h => Bool.noConfusion h⟩, rfl⟩ | exact ⟨⟨_, rfl, fun _ => by omega⟩, rfl⟩
end Go.Proofs.Qxb6500907a

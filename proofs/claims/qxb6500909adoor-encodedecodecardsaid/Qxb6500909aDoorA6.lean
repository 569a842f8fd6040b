import Derived.Test.Qxb6500909aDoorA5
import Derived.Test.Qxb6500909aDoorIfc
namespace Go.Proofs.Qxb6500909aDoor
open Go.Eng
set_option linter.unusedVariables false
set_option linter.unusedSimpArgs false
theorem one35 : oneOk Tryd.prog 35 = true := by kernel_rfl
/-- one op of a script -/
structure DO where
  kd : Int
  p : Option Addr
  N : Nat
  cap : Nat
  nn : Int
  kp : Nat
  dat : Nat → Int
  Sc : List (Nat × Obj)
def DO.vals (d : DO) : List Value := [.int .i64 d.kd, .slice d.p d.N d.cap, .int .i64 d.nn, .int .u64 (d.kp : Int)]
structure DO.ok (d : DO) : Prop where
  kd : -9223372036854775808 ≤ d.kd ∧ d.kd ≤ 9223372036854775807
  nn : -9223372036854775808 ≤ d.nn ∧ d.nn ≤ 9223372036854775807
  kp : d.kp < 18446744073709551616
  len : d.N ≤ d.cap ∧ d.N ≤ 9223372036854775807
  rng : ∀ i, i < d.N → 0 ≤ d.dat i ∧ d.dat i ≤ 255
  src : (d.N = 0 ∧ d.Sc = []) ∨ (0 < d.N ∧ ∃ (db off : Nat) (c : List Value) (T : TypeId) (fr : Nat × Nat), d.p = some ⟨db, off, none⟩ ∧ d.Sc = [(db, .cells ⟨c⟩ T fr)] ∧ ∀ i, i < d.N → c[off + i]? = some (.int .u8 (d.dat i)))
structure DOps (sb : Nat) (c : List Value) (p : Option Addr) (cap : Nat) (ops : List DO) : Prop where
  le : ops.length ≤ cap
  ok : ∀ o, o ∈ ops → o.ok
  at_ : 0 < ops.length → ∃ so, p = some ⟨sb, so, none⟩ ∧ ∀ i o, ops[i]? = some o → (c.drop (so + i * 4)).take 4 = o.vals
def DIn (sb : Nat) (c : List Value) (T : TypeId) (fr : Nat × Nat) (ops : List DO) (w : World) : Prop := (0 < ops.length → w.heap[sb]? = some (.cells ⟨c⟩ T fr)) ∧ ∀ d, d ∈ ops → Mem d.Sc w
theorem mem_keep {w0 w : World} {F Sc : List (Nat × Obj)} (hh : Has [] w0 F w) (h : Mem Sc w0) : Mem Sc w := fun b o m =>
  (hh.frm.block b (Array.getElem?_eq_some_iff.1 (h b o m)).1 (by simp)).trans (h b o m)
theorem heap_keep {w0 w : World} {F : List (Nat × Obj)} {b : Nat} {o : Obj} (hh : Has [] w0 F w) (h : w0.heap[b]? = some o) : w.heap[b]? = some o :=
  (hh.frm.block b (Array.getElem?_eq_some_iff.1 h).1 (by simp)).trans h
theorem DIn.keep {sb : Nat} {c : List Value} {T : TypeId} {fr : Nat × Nat} {ops : List DO} {w w' : World} {F : List (Nat × Obj)} (hh : Has [] w F w') (h : DIn sb c T fr ops w) : DIn sb c T fr ops w' :=
  ⟨fun h0 => heap_keep hh (h.1 h0), fun d hd => mem_keep hh (h.2 d hd)⟩
/-- the bytes of an op, as they are read -/
theorem DO.rd {d : DO} (h : d.ok) {w : World} (hm : Mem d.Sc w) : Rd d.p d.N (datL d.dat d.N) w := by
  rcases h.src with ⟨h0, _⟩ | ⟨h0, db, off, c, T, fr, hp, hs, hc⟩
  · exact .inl ⟨h0, by rw [h0]; rfl⟩
  · refine .inr ⟨datL_len _ _, db, off, c, T, fr, hp, hm _ _ (by rw [hs]; simp), ?_⟩
    apply List.ext_getElem?
    intro j
    rw [List.getElem?_take]
    by_cases hj : j < d.N
    · rw [if_pos hj, List.getElem?_drop, hc j hj]
      unfold datL
      rw [List.getElem?_map, List.getElem?_range hj]; rfl
    · rw [if_neg hj, List.getElem?_eq_none (by rw [datL_len]; omega)]
theorem datL_u8 (d : Nat → Int) (n : Nat) : ∀ v, v ∈ datL d n → ∃ x : Int, v = .int .u8 x := fun v hv => by
  obtain ⟨j, _, rfl⟩ := List.mem_map.1 hv
  exact ⟨_, rfl⟩
theorem rd_row {p : Option Addr} {n cap : Nat} {xs : List Value} {e : TypeId} {E : List (Nat × Obj)} (h : Row (.slice p n cap) n xs 1 e E) {w : World} (hm : Mem E w) : Rd p n xs w := by
  rcases h with ⟨h1, h2, h3, _⟩ | ⟨b, cap', junk, h1, h2, h3, h4, rfl⟩
  · exact .inl ⟨h2, h3⟩
  · injection h1 with h5 h6 h7
    rw [Nat.mul_one] at h2
    refine .inr ⟨h2, b, 0, xs ++ junk, e, (0, 0), h5, hm _ _ (List.mem_singleton.2 rfl), ?_⟩
    rw [List.drop_zero, ← h2]; simp
/-- what an encoding answers -/
def EncR (ev : Value) (ep sq kd dn : Nat) (dat : Nat → Int) (u : Value) (F' : List (Nat × Obj)) : Prop :=
  (dn ≤ 81880 ∧ ∃ eb ecap junk, u = .tuple #[.slice (some ⟨eb, 0, none⟩) (secN dn * 64) ecap, .nilIface] ∧ secN dn * 64 ≤ ecap ∧ F' = [(eb, C (encC (secQ ep sq dn kd dat) (secN dn) ++ junk) 5)]) ∨
  (81880 < dn ∧ u = .tuple #[.slice none 0 0, ev] ∧ F' = [])
theorem encR_row {ev : Value} {ep sq kd dn : Nat} {dat : Nat → Int} {u : Value} {F' : List (Nat × Obj)} (hdn : dn ≤ 81880) (h : ∃ rv E, Row rv (secN dn * 64) (encC (secQ ep sq dn kd dat) (secN dn)) 1 5 E ∧ u = .tuple #[rv, .nilIface] ∧ F' = E) : EncR ev ep sq kd dn dat u F' := by
  obtain ⟨rv, E, hr, hu, rfl⟩ := h
  have := secN_pos dn
  rcases hr with ⟨_, h2, _, _⟩ | ⟨b, cap', junk, rfl, h2, h3, h4, rfl⟩
  · omega
  · exact .inl ⟨hdn, b, cap', junk, hu, h4, rfl⟩


set_option maxHeartbeats 1000000 in
theorem encBig (ep sq kd dn : Nat) (p : Option Addr) (dcap : Nat) (ev : Value) (GT : TypeId) (gf : Nat × Nat) (hev : ev.oneCell' = true) (hdn : 81880 < dn) (hdn2 : dn ≤ 9223372036854775807) : SpK Tryd.prog 38 #[.slice none 0 0, .agg ⟨[.int .u32 (ep : Int), .int .u64 (sq : Int), .int .u8 (kd : Int), .slice p dn dcap]⟩] (fun w => w.heap[1]? = some (.cells ⟨[ev]⟩ GT gf)) [] (fun u F' => u = .tuple #[.slice none 0 0, ev] ∧ F' = []) := by
  refine f_enter (args := [.slice none 0 0, .agg ⟨[.int .u32 (ep : Int), .int .u64 (sq : Int), .int .u8 (kd : Int), .slice p dn dcap]⟩]) Tryd.func38 rfl Tryd.ntmps38 rfl ?_
  intro w0 w a hpre hl hh
  simp only [slotsFrom, Nat.reduceAdd] at hl
  refine c_seq ?_
  refine c_region ?_
  refine wl (w_box hl hh rfl trivial rfl rfl ?_)
  clear hl hh a w; intro k3 a w hl hh
  refine wl (wl_val hl rfl trivial (r_assign hl rfl) ?_)
  clear hl a; intro a hl
  refine wl (wl_val hl rfl trivial (r_assign hl rfl) ?_)
  clear hl a; intro a hl
  refine w_nil ?_
  have hl2 := hl.add (t := 0) (hl.add (t := 3) (hl.nil) rfl) rfl; clear hl; have hl := hl2; clear hl2
  refine then_normal ?_
  refine c_seq ?_
  refine c_seq ?_
  refine c_region ?_
  refine wl (wl_val hl rfl trivial (r_field hl rfl fld60_3) ?_)
  clear hl a; intro a hl
  refine wl (w_load hl hh rfl trivial one29 rfl (by repeat (first | exact find_head | apply find_tail)) (by first | rfl) ?_)
  clear hl a; intro a hl
  refine wl (wl_val hl rfl trivial (r_lenS hl rfl slc29) ?_)
  clear hl a; intro a hl
  refine wl (wl_val hl rfl trivial (r_gtr hl rfl rfl) ?_)
  clear hl a; intro a hl
  refine w_nil ?_
  have hl2 := hl.add (t := 0) (hl.add (t := 3) (hl.add (t := 13) (hl.nil) rfl) rfl) rfl; clear hl; have hl := hl2; clear hl2
  refine then_normal ?_
  refine c_cond hl rfl ?_ ?_
  · intro hc0
    try simp only [decide_eq_true_eq, decide_eq_false_iff_not, Bool.not_eq_true', Bool.not_eq_false', Bool.not_eq_true, Bool.not_eq_false, Bool.and_eq_true, Bool.or_eq_true, Bool.and_eq_false_iff, Bool.or_eq_false_iff, Bool.not_not, ne_eq, Int.not_lt, Int.not_le, Decidable.not_not, beq_iff_eq, bne_iff_ne] at hc0
    refine c_seq ?_
    refine c_draw [(1, .cells ⟨[ev]⟩ GT gf)] [3] mixed hh ?_
    clear hh w; intro w hh
    have hM : Mem [(1, .cells ⟨[ev]⟩ GT gf)] w := (by repeat (first | exact Mem.nil | refine Mem.consR hh (by assumption) (by simp) ?_ | refine Mem.cons hh.mem (by repeat (first | exact find_head | apply find_tail)) ?_))
    refine d_take (i := 0) hl rfl (by kernel_rfl) (by kernel_rfl) (by kernel_rfl) (by kernel_rfl) (by kernel_rfl) rfl trivial (fun _ _ _ h => h) hM (fun w hC => r_move hl rfl) rfl ?_
    clear hl a; intro a hl
    refine d_take (i := 1) hl rfl (by kernel_rfl) (by kernel_rfl) (by kernel_rfl) (by kernel_rfl) (by kernel_rfl) rfl trivial (fun _ _ _ h => h) hM (fun w hC => r_loadCG hl rfl one35 hC (by repeat (first | exact find_head | apply find_tail)) (by rfl)) rfl ?_
    clear hl a; intro a hl
    refine d_take (i := 2) hl rfl (by kernel_rfl) (by kernel_rfl) (by kernel_rfl) (by kernel_rfl) (by kernel_rfl) rfl trivial (fun _ _ _ h => h) hM (fun w hC => r_assign hl rfl) rfl ?_
    clear hl a; intro a hl
    refine d_takeL (i := 3) hl rfl (by kernel_rfl) (by kernel_rfl) (by kernel_rfl) (by kernel_rfl) (by kernel_rfl) rfl trivial (fun _ _ _ h => h) (fun w => r_assign hl rfl) rfl ?_
    clear hl a; intro a hl
    refine d_done (by kernel_rfl) ?_
    try clear hM
    have hl2 := hl.add (t := 4) (hl.add (t := 5) (hl.nil) rfl) rfl; clear hl; have hl := hl2; clear hl2
    refine then_normal ?_
    refine wp_ret ?_
    refine then_ret ?_
    refine f_ret2 (F' := []) hl hh rfl rfl rfl (by repeat (first | exact keeps_nil | apply keeps_cons (by repeat (first | exact find_head | apply find_tail)) (by first  | rfl) | exact keeps_self | apply keeps_mv)) ?_
    exact ⟨rfl, rfl⟩
  · intro hc0
    try simp only [decide_eq_true_eq, decide_eq_false_iff_not, Bool.not_eq_true', Bool.not_eq_false', Bool.not_eq_true, Bool.not_eq_false, Bool.and_eq_true, Bool.or_eq_true, Bool.and_eq_false_iff, Bool.or_eq_false_iff, Bool.not_not, ne_eq, Int.not_lt, Int.not_le, Decidable.not_not, beq_iff_eq, bne_iff_ne] at hc0
    exfalso; omega

theorem enc_spec (d : DO) (ok : d.ok) (ep sq kd : Nat) (ev : Value) (GT : TypeId) (gf : Nat × Nat) (hev : ev.oneCell' = true) (hep : ep < 4294967296) (hsq : sq < 18446744073709551616) (hkd : kd = 1 ∨ kd = 2) :
    SpK Tryd.prog 38 #[.slice none 0 0, .agg ⟨[.int .u32 (ep : Int), .int .u64 (sq : Int), .int .u8 (kd : Int), .slice d.p d.N d.cap]⟩] (fun w => Mem d.Sc w ∧ w.heap[1]? = some (.cells ⟨[ev]⟩ GT gf)) [] (EncR ev ep sq kd d.N d.dat) := by
  intro w hp h1 h2
  by_cases hb : 81880 < d.N
  · refine (encBig ep sq kd d.N d.p d.cap ev GT gf hev hb ok.len.2 w hp.2 h1 h2).mono fun e w' hq => ?_
    cases e with
    | returned v => obtain ⟨F', hR, hh⟩ := hq; exact ⟨F', .inr ⟨hb, hR.1, hR.2⟩, hh⟩
    | _ => exact hq
  · rcases ok.src with ⟨h0, hs⟩ | ⟨h0, db, off, c, T, fr, hpp, hs, hc⟩
    · refine (encode0 ep sq kd d.N d.dat d.p d.cap h0 (by omega) hep hsq hkd w trivial h1 h2).mono fun e w' hq => ?_
      cases e with
      | returned v => obtain ⟨F', hR, hh⟩ := hq; exact ⟨F', encR_row (by omega) hR, hh⟩
      | _ => exact hq
    · rw [hpp]
      refine (encodeN ep sq kd d.N d.dat db off d.cap c T fr (fun i hi => ⟨hc i hi, ok.rng i hi⟩) h0 ok.len.1 (by omega) hep hsq hkd w (hp.1 _ _ (by rw [hs]; exact List.mem_singleton.2 rfl)) h1 h2).mono fun e w' hq => ?_
      cases e with
      | returned v => obtain ⟨F', hR, hh⟩ := hq; exact ⟨F', encR_row (by omega) hR, hh⟩
      | _ => exact hq

end Go.Proofs.Qxb6500909aDoor

import Derived.Test.Qxb6500907aX3
import Derived.Test.Qxb6500907aX2
namespace Go.Proofs.Qxb6500907a
open Go.Eng
set_option linter.unusedVariables false
set_option linter.unusedSimpArgs false

theorem ZX.bad {Sc X : List (Nat × Obj)} {z : ZS} {p : Option Addr} (h : ZX Sc z p X) (hp : p ≠ none) : z.err.isNone = false := by
  rw [h.nn]; cases p with
  | none => exact absurd rfl hp
  | some _ => rfl
theorem ZX.good {Sc X : List (Nat × Obj)} {z : ZS} {p : Option Addr} (h : ZX Sc z p X) (hp : p = none) : z.err.isNone = true := by rw [h.nn, hp]; rfl
theorem ZO.back {src : List Int} {z : ZS} (h : ZO src z) : src.drop (src.length - z.rest.length) = z.rest := by
  obtain ⟨k, hk, e⟩ := h.suf
  rw [e, (suf_lt hk).2]
theorem ZO.restLe {src : List Int} {z : ZS} (h : ZO src z) : z.rest.length ≤ src.length := by
  obtain ⟨k, hk, e⟩ := h.suf
  rw [e]; exact (suf_lt hk).1
theorem failZ_bad {z : ZS} (h : z.err.isNone = false) (code p : Int) : failZ z code p = z := by unfold failZ; rw [if_neg (by rw [h]; simp)]
theorem failZ_good {z : ZS} (h : z.err.isNone = true) (code p : Int) : failZ z code p = { z with err := some (code, p) } := by unfold failZ; rw [if_pos h]
theorem ZO.fail {src : List Int} {z : ZS} (h : ZO src z) (code p : Int) : ZO src (failZ z code p) := by
  unfold failZ; split
  · exact ⟨h.suf, h.val, h.tp, h.txt, h.len⟩
  · exact h
theorem pz_same {b : Nat} {sv : Value} {src : List Int} {Sc X : List (Nat × Obj)} {z z' : ZS} {p : Option Addr} (hz : ZX Sc z p X) (ho : ZO src z) (e : z' = z) : PZ b sv src Sc z' ((b, C (z.cells src.length sv p) 93) :: X) := by
  subst e; exact ⟨p, X, rfl, hz, ho⟩
theorem pz_fail {b : Nat} {sv : Value} {src : List Int} {Sc X : List (Nat × Obj)} {z : ZS} {p : Option Addr} (hz : ZX Sc z p X) (ho : ZO src z) (hp : p = none) (code pp : Int) (k : Nat) : PZ b sv src Sc (failZ z code pp) ((b, C (z.cells src.length sv (some ⟨k, 0, none⟩)) 93) :: (k, C [.int .u8 code, .int .i64 pp] 79) :: X) := by
  obtain ⟨h1, rfl⟩ := hz.ok hp
  have h2 := ho.fail code pp
  rw [failZ_good (hz.good hp)] at h2 ⊢
  exact ⟨_, _, rfl, .inr ⟨k, code, pp, rfl, rfl, rfl⟩, h2⟩
theorem advZ_bad {N : Nat} {z : ZS} (h : z.err.isNone = false) : advZ N z = z := by unfold advZ; rw [if_neg (by rw [h]; simp)]
theorem ZO.adv {src : List Int} {z : ZS} (h : ZO src z) : ZO src (advZ src.length z) := by
  unfold advZ
  split
  · have hl := lex_ok z.rest
    have hr := h.restLe
    obtain ⟨k, hk, e⟩ := h.suf
    obtain ⟨k2, hk2, e2⟩ := hl.rest
    have hsuf : ∃ k, k ≤ src.length ∧ (lexL z.rest).rest = src.drop k := ⟨k + k2, by rw [e, List.length_drop] at hk2; omega, by rw [e2, e, List.drop_drop]⟩
    cases hq : (lexL z.rest).tok with
    | none => exact ⟨hsuf, ⟨Int.le_refl _, by show (0 : Int) ≤ 4294967295; decide⟩, Nat.zero_le _, Nat.zero_le _, h.len⟩
    | some t =>
      obtain ⟨h1, h2⟩ := hl.val t hq
      exact ⟨hsuf, h1, Nat.sub_le _ _, Nat.le_trans h2 hr, h.len⟩
  · exact h
theorem pz_advT {b : Nat} {sv : Value} {src : List Int} {Sc X : List (Nat × Obj)} {z : ZS} {p : Option Addr} (hz : ZX Sc z p X) (ho : ZO src z) (hp : p = none) {t : Tk} (ht : (lexL z.rest).tok = some t) : PZ b sv src Sc (advZ src.length z) ((b, C [sv, .int .i64 ((src.length - (lexL z.rest).rest.length : Nat) : Int), .int .u8 t.kind, .int .i64 ((src.length - (lexL z.rest).st.length : Nat) : Int), .string t.txt, .int .u32 t.val, .pointer none] 93) :: Sc) := by
  have h2 := ho.adv
  have e : advZ src.length z = ⟨(lexL z.rest).rest, t, src.length - (lexL z.rest).st.length, none⟩ := by unfold advZ; rw [if_pos (hz.good hp), ht]
  rw [e] at h2 ⊢
  exact ⟨none, Sc, rfl, .inl ⟨rfl, rfl, rfl⟩, h2⟩
theorem pz_advE {b : Nat} {sv : Value} {src : List Int} {Sc X : List (Nat × Obj)} {z : ZS} {p : Option Addr} (hz : ZX Sc z p X) (ho : ZO src z) (hp : p = none) (ht : (lexL z.rest).tok = none) (k : Nat) : PZ b sv src Sc (advZ src.length z) ((b, C [sv, .int .i64 ((src.length - (lexL z.rest).rest.length : Nat) : Int), .int .u8 0, .int .i64 0, .string ⟨#[]⟩, .int .u32 0, .pointer (some ⟨k, 0, none⟩)] 93) :: (k, C [.int .u8 (lexL z.rest).code, .int .i64 ((src.length - (lexL z.rest).st.length : Nat) : Int)] 79) :: Sc) := by
  have h2 := ho.adv
  have e : advZ src.length z = ⟨(lexL z.rest).rest, .eof, 0, some ((lexL z.rest).code, ((src.length - (lexL z.rest).st.length : Nat) : Int))⟩ := by unfold advZ; rw [if_pos (hz.good hp), ht]
  rw [e] at h2 ⊢
  exact ⟨_, _, rfl, .inr ⟨k, _, _, rfl, rfl, rfl⟩, h2⟩
theorem wordZ_e {N : Nat} {z : ZS} (h : z.err.isNone = false) : wordZ N z = (⟨#[]⟩, z) := by unfold wordZ; rw [if_neg (by rw [h]; simp)]
theorem wordZ_u {N : Nat} {z : ZS} (h : z.err.isNone = true) (hk : ¬ z.tok.kind = 2) : wordZ N z = (⟨#[]⟩, unexpZ z) := by unfold wordZ; rw [if_pos h, if_neg hk]
theorem wordZ_w {N : Nat} {z : ZS} (h : z.err.isNone = true) (hk : z.tok.kind = 2) : wordZ N z = (z.tok.txt, advZ N z) := by unfold wordZ; rw [if_pos h, if_pos hk]
theorem numZ_e {N : Nat} {z : ZS} {mx code : Int} (h : z.err.isNone = false) : numZ N z mx code = (0, z) := by unfold numZ; rw [if_neg (by rw [h]; simp)]
theorem numZ_u {N : Nat} {z : ZS} {mx code : Int} (h : z.err.isNone = true) (hk : ¬ z.tok.kind = 3) : numZ N z mx code = (0, unexpZ z) := by unfold numZ; rw [if_pos h, if_neg hk]
theorem numZ_f {N : Nat} {z : ZS} {mx code : Int} (h : z.err.isNone = true) (hk : z.tok.kind = 3) (hm : mx < z.tok.val) : numZ N z mx code = (0, failZ z code (z.tp : Int)) := by unfold numZ; rw [if_pos h, if_pos hk, if_pos hm]
theorem numZ_n {N : Nat} {z : ZS} {mx code : Int} (h : z.err.isNone = true) (hk : z.tok.kind = 3) (hm : ¬ mx < z.tok.val) : numZ N z mx code = (z.tok.val, advZ N z) := by unfold numZ; rw [if_pos h, if_pos hk, if_neg hm]
theorem numZ_rng {N : Nat} {src : List Int} {z : ZS} {mx code : Int} (ho : ZO src z) (hm : 0 ≤ mx) : 0 ≤ (numZ N z mx code).1 ∧ (numZ N z mx code).1 ≤ mx := by
  unfold numZ
  have := ho.val
  split
  · split
    · split
      · exact ⟨Int.le_refl _, hm⟩
      · rename_i h; exact ⟨this.1, by omega⟩
    · exact ⟨Int.le_refl _, hm⟩
  · exact ⟨Int.le_refl _, hm⟩
theorem devW_rng (w : ByteArray) : -2 ≤ devW w ∧ devW w < 16 := by
  unfold devW
  split
  · omega
  · split
    · cases hq : decF 0 (dsW w) with
      | none => simp only; omega
      | some n =>
        simp only
        have : 0 ≤ n := (decF_rng _ 0 n (Int.le_refl _) (by decide) (fun d hd => by
          have h := List.all_eq_true.1 (by assumption) d hd
          unfold digB at h
          simp only [Bool.and_eq_true, decide_eq_true_eq] at h; exact h.1) hq).1
        split <;> omega
    · omega
theorem devZ_rng (N : Nat) (z : ZS) : 0 ≤ (devZ N z).1 ∧ (devZ N z).1 ≤ 15 := by
  unfold devZ
  have := devW_rng (wordZ N z).1
  split
  · split
    · simp
    · split
      · simp
      · simp only; omega
  · simp
/-- the reader of one of two words -/
theorem kwZ_f {N : Nat} {z : ZS} {s1 s2 : ByteArray} (h1 : (wordZ N z).2.err.isNone = true) (h2 : ((wordZ N z).1.toList == s1.toList) = false) (h3 : ((wordZ N z).1.toList == s2.toList) = false) : (kwZ N z s1 s2).2 = failZ (wordZ N z).2 2 (z.tp : Int) := by
  unfold kwZ sEq
  simp [h1, h2, h3]
theorem kwZ_e {N : Nat} {z : ZS} {s1 s2 : ByteArray} (h : (wordZ N z).2.err.isNone = false ∨ (wordZ N z).1.toList = s1.toList ∨ (wordZ N z).1.toList = s2.toList) : (kwZ N z s1 s2).2 = (wordZ N z).2 := by
  unfold kwZ sEq
  rcases h with h | h | h <;> simp [h]
theorem kwZ_1 {N : Nat} {z : ZS} {s1 s2 : ByteArray} : (kwZ N z s1 s2).1 = ((wordZ N z).1.toList == s1.toList) := rfl
theorem ZO.unexp {src : List Int} {z : ZS} (h : ZO src z) : ZO src (unexpZ z) := h.fail _ _
/-- skipping lines: enough steps -/
theorem adv_rest {N : Nat} {z : ZS} (h : z.err.isNone = true) : (advZ N z).rest = (lexL z.rest).rest ∧ ((advZ N z).err.isNone = true → (advZ N z).tok.kind = 1 → (advZ N z).rest.length < z.rest.length) := by
  unfold advZ
  rw [if_pos h]
  cases hq : (lexL z.rest).tok with
  | none => exact ⟨rfl, fun h => by cases h⟩
  | some t => exact ⟨rfl, fun _ (hk : t.kind = 1) => (lex_ok z.rest).lt t hq (by omega)⟩
theorem blF_stop (N n : Nat) {z : ZS} (h : ¬ (z.err.isNone = true ∧ z.tok.kind = 1)) : blF N n z = z := by
  cases n with
  | zero => rfl
  | succ n => unfold blF; rw [if_neg (by simpa using h)]
theorem blF_go (N n : Nat) {z : ZS} (h1 : z.err.isNone = true) (h2 : z.tok.kind = 1) (hn : 0 < n) : blF N n z = blF N (n - 1) (advZ N z) := by
  obtain ⟨m, rfl⟩ : ∃ m, n = m + 1 := ⟨n - 1, by omega⟩
  conv => lhs; unfold blF
  rw [if_pos (by simp [h1, h2])]; rfl
structure BlI (src : List Int) (z0 : ZS) (n : Nat) (z : ZS) : Prop where
  eq : blZ src.length z0 = blF src.length n z
  n : z.err.isNone = true → z.tok.kind = 1 → z.rest.length + 1 ≤ n
theorem BlI.start (src : List Int) (z : ZS) : BlI src z (z.rest.length + 1) z := ⟨rfl, fun _ _ => Nat.le_refl _⟩
theorem BlI.next {src : List Int} {z0 z : ZS} {n : Nat} (h : BlI src z0 n z) (h1 : z.err.isNone = true) (h2 : z.tok.kind = 1) : BlI src z0 (n - 1) (advZ src.length z) := by
  have hn := h.n h1 h2
  refine ⟨h.eq.trans (blF_go _ _ h1 h2 (by omega)), fun a b => ?_⟩
  have := (adv_rest (N := src.length) h1).2 a b
  omega
theorem BlI.stop {src : List Int} {z0 z : ZS} {n : Nat} (h : BlI src z0 n z) (h1 : ¬ (z.err.isNone = true ∧ z.tok.kind = 1)) : blZ src.length z0 = z := h.eq.trans (blF_stop _ _ h1)
theorem dsW_len (w : ByteArray) : (dsW w).length = w.size - 1 := by unfold dsW; simp
theorem dsW_at {w : ByteArray} {i : Nat} (h : i + 1 < w.size) : gD (dsW w) i = byteAt w (i + 1) := by
  unfold gD dsW
  rw [List.getD_eq_getElem?_getD, List.getElem?_map, List.getElem?_range (by omega)]; rfl
theorem devW_1 {w : ByteArray} (h : w.size < 2 ∨ byteAt w 0 ≠ 114) : devW w = -1 := by unfold devW; rw [if_pos h]
theorem devW_2 {w : ByteArray} {i : Nat} (h0 : ¬ (w.size < 2 ∨ byteAt w 0 ≠ 114)) (hi : i + 1 < w.size) (h : digB (byteAt w (i + 1)) = false) : devW w = -1 := by
  unfold devW
  rw [if_neg h0, if_neg]
  intro hq
  have := List.all_eq_true.1 hq (gD (dsW w) i) (List.mem_of_getElem? (gD_get (by rw [dsW_len]; omega)))
  rw [dsW_at hi, h] at this; cases this
theorem devW_all {w : ByteArray} (h : ∀ k, 1 ≤ k → k < w.size → digB (byteAt w k) = true) : (dsW w).all digB = true := by
  rw [List.all_eq_true]
  intro x hx
  obtain ⟨i, hi, rfl⟩ := List.mem_map.1 hx
  have := List.mem_range.1 hi
  exact h (i + 1) (by omega) (by omega)
theorem devW_3 {w : ByteArray} (h0 : ¬ (w.size < 2 ∨ byteAt w 0 ≠ 114)) (h : (dsW w).all digB = true) (hd : decF 0 (dsW w) = none ∨ 16 ≤ (decF 0 (dsW w)).getD 0) : devW w = -2 := by
  unfold devW
  rw [if_neg h0, if_pos h]
  cases hq : decF 0 (dsW w) with
  | none => rfl
  | some n =>
    rw [hq] at hd
    rcases hd with hd | hd
    · cases hd
    · show (if n ≥ 16 then -2 else n) = -2
      rw [if_pos (show n ≥ 16 from hd)]
theorem devW_4 {w : ByteArray} (h0 : ¬ (w.size < 2 ∨ byteAt w 0 ≠ 114)) (h : (dsW w).all digB = true) {n : Int} (hd : decF 0 (dsW w) = some n) (hn : ¬ 16 ≤ n) : devW w = n := by
  unfold devW
  rw [if_neg h0, if_pos h, hd]
  show (if n ≥ 16 then -2 else n) = n
  rw [if_neg (show ¬ n ≥ 16 from hn)]
theorem devZ_e {N : Nat} {z : ZS} (h : (wordZ N z).2.err.isNone = false) : devZ N z = (0, (wordZ N z).2) := by unfold devZ; rw [if_neg (by rw [h]; simp)]
theorem devZ_1 {N : Nat} {z : ZS} (h : (wordZ N z).2.err.isNone = true) (hd : devW (wordZ N z).1 = -1) : devZ N z = (0, failZ (wordZ N z).2 2 (z.tp : Int)) := by unfold devZ; rw [if_pos h, if_pos hd]
theorem devZ_2 {N : Nat} {z : ZS} (h : (wordZ N z).2.err.isNone = true) (hd : devW (wordZ N z).1 = -2) : devZ N z = (0, failZ (wordZ N z).2 6 (z.tp : Int)) := by unfold devZ; rw [if_pos h, if_neg (by omega), if_pos hd]
theorem devZ_3 {N : Nat} {z : ZS} (h : (wordZ N z).2.err.isNone = true) {n : Int} (hd : devW (wordZ N z).1 = n) (hn : 0 ≤ n) : devZ N z = (n, (wordZ N z).2) := by unfold devZ; rw [if_pos h, if_neg (by omega), if_neg (by omega), hd]
theorem byteAt_ext (w : ByteArray) (i : Nat) (h : 1 + i < w.size) : byteAt (w.extract 1 w.size) i = byteAt w (i + 1) := by
  unfold byteAt
  have h1 : (w.extract 1 w.size)[i]? = some ((w.extract 1 w.size)[i]'(by rw [ByteArray.size_extract]; omega)) := by
    show (if h : i < (w.extract 1 w.size).size then some (w.extract 1 w.size)[i] else none) = _
    rw [dif_pos (by rw [ByteArray.size_extract]; omega)]
  have h2 : w[i + 1]? = some (w[i + 1]'(by omega)) := by
    show (if h : i + 1 < w.size then some w[i + 1] else none) = _
    rw [dif_pos (by omega)]
  rw [h1, h2]
  have : (w.extract 1 w.size)[i]'(by rw [ByteArray.size_extract]; omega) = w[i + 1]'(by omega) := by
    rw [ByteArray.getElem_extract]
    congr 1; omega
  rw [this]
theorem eoZ_t {z : ZS} (h1 : z.err.isNone = true) (h2 : ¬ z.tok.kind = 1) : eoZ z = unexpZ z := by unfold eoZ; rw [if_pos (by simp [h1, h2])]
theorem eoZ_f {z : ZS} (h : z.err.isNone = false ∨ z.tok.kind = 1) : eoZ z = z := by unfold eoZ; rw [if_neg (by rcases h with h | h <;> simp [h])]
theorem slZ_t {z : ZS} (h1 : z.err.isNone = true) (h2 : ¬ z.tok.kind = 4) : slZ z = unexpZ z := by unfold slZ; rw [if_pos (by simp [h1, h2])]
theorem slZ_f {z : ZS} (h : z.err.isNone = false ∨ z.tok.kind = 4) : slZ z = z := by unfold slZ; rw [if_neg (by rcases h with h | h <;> simp [h])]
theorem dev_bs {w : ByteArray} {l : List Value} (hw : 2 ≤ w.size) (h : ∀ i, i < (w.extract 1 w.size).size → l[i]? = some (.int .u8 (byteAt (w.extract 1 w.size) i))) (hall : (dsW w).all digB = true) : ∀ i, i < (dsW w).length → l[0 + i]? = some (.int .u8 (gD (dsW w) i)) ∧ digB (gD (dsW w) i) = true := fun i hi => by
  rw [dsW_len] at hi
  refine ⟨?_, List.all_eq_true.1 hall _ (List.mem_of_getElem? (gD_get (by rw [dsW_len]; exact hi)))⟩
  rw [Nat.zero_add, h i (by rw [ByteArray.size_extract]; omega), dsW_at (by omega), byteAt_ext w i (by omega)]
theorem isNone_of {o : Option Int} (h : o.isSome = false) : o = none := by cases o with | none => rfl | some _ => cases h
theorem some_of {o : Option Int} (h : ¬ o = none) : ∃ n, o = some n := by cases o with | none => exact absurd rfl h | some n => exact ⟨n, rfl⟩
theorem dec0 {w : ByteArray} (hall : (dsW w).all digB = true) {n : Int} (h : decF 0 (dsW w) = some n) : 0 ≤ n ∧ n ≤ 4294967295 := decF_rng _ 0 n (Int.le_refl _) (by decide) (fun d hd => by
  have h := List.all_eq_true.1 hall d hd
  unfold digB at h
  simp only [Bool.and_eq_true, decide_eq_true_eq] at h; exact h.1) h
theorem wordZ_size {N : Nat} {src : List Int} {z : ZS} (ho : ZO src z) : (wordZ N z).1.size ≤ 9223372036854775807 := by
  have h1 := ho.txt; have h2 := ho.len
  unfold wordZ
  split
  · split
    · show z.tok.txt.size ≤ _; omega
    · exact Nat.zero_le _
  · exact Nat.zero_le _


set_option maxHeartbeats 1000000 in
theorem failF (b : Nat) (sv : Value) (src : List Int) (Sc : List (Nat × Obj)) (hS : SrcL sv src Sc) (z : ZS) (p : Option Addr) (X : List (Nat × Obj)) (hz : ZX Sc z p X) (ho : ZO src z) (code pp : Int) : Sp Try.prog 39 #[.pointer (some ⟨b, 0, none⟩), .int .u8 code, .int .i64 pp] ((b, C (z.cells src.length sv p) 93) :: X) (fun v F' => v = .tuple #[] ∧ PZ b sv src Sc (failZ z code pp) F') := by
  refine f_enter (args := [.pointer (some ⟨b, 0, none⟩), .int .u8 code, .int .i64 pp]) Try.func39 rfl Try.ntmps39 rfl ?_
  intro w0 w a hpre hl hh
  simp only [slotsFrom, Nat.reduceAdd] at hl
  refine c_seq ?_
  refine c_region ?_
  refine wl (wl_val hl rfl trivial (r_move hl rfl) ?_)
  clear hl a; intro a hl
  refine wl (wl_val hl rfl trivial (r_nilCheck hl rfl) ?_)
  clear hl a; intro a hl
  refine wl (wl_val hl rfl trivial (r_field hl rfl fld93_2) ?_)
  clear hl a; intro a hl
  refine wl (w_load hl hh rfl trivial one77 rfl (by repeat (first | exact find_head | apply find_tail)) (by first | rfl) ?_)
  clear hl a; intro a hl
  refine wl (wl_val hl rfl trivial (r_eql_pointer hl rfl rfl ptr77) ?_)
  clear hl a; intro a hl
  refine w_nil ?_
  have hl2 := hl.add (t := 0) (hl.add (t := 1) (hl.add (t := 2) (hl.add (t := 10) (hl.nil) rfl) rfl) rfl) rfl; clear hl; have hl := hl2; clear hl2
  refine then_normal ?_
  refine c_cond hl rfl ?_ ?_
  · intro hc0
    try simp only [decide_eq_true_eq, decide_eq_false_iff_not, Bool.not_eq_true', Bool.not_eq_false', Bool.not_eq_true, Bool.not_eq_false, Bool.and_eq_true, Bool.or_eq_true, Bool.and_eq_false_iff, Bool.or_eq_false_iff, Bool.not_not, ne_eq, Int.not_lt, Int.not_le, Decidable.not_not, beq_iff_eq, bne_iff_ne, Option.isNone_iff_eq_none, Option.isNone_eq_false_iff, Option.isSome_iff_ne_none] at hc0
    have hpn := hc0
    refine c_region ?_
    refine wl (wl_val hl rfl trivial (r_move hl rfl) ?_)
    clear hl a; intro a hl
    refine wl (wl_val hl rfl trivial (r_move hl rfl) ?_)
    clear hl a; intro a hl
    refine wl (wl_val hl rfl trivial (r_move hl rfl) ?_)
    clear hl a; intro a hl
    refine wl (wl_val hl rfl trivial (r_build hl rfl zero79 bld79 (by simp only [fillL, setL, List.getElem?_cons_zero, List.getElem?_cons_succ, Value.cells, List.take_zero, List.take_succ_cons, List.take_nil, List.drop_zero, List.drop_succ_cons, List.drop_nil, List.length_cons, List.length_nil, List.cons_append, List.nil_append, List.append_nil, Nat.zero_add, Nat.add_zero, Nat.reduceAdd, Nat.reduceBEq, Nat.reduceEqDiff, Nat.ble, BEq.rfl, Bool.and_true, Bool.and_self, cond_true, beq_self_eq_true]; rfl)) ?_)
    clear hl a; intro a hl
    refine wl (w_box hl hh rfl trivial rfl rfl ?_)
    clear hl hh a w; intro k15 a w hl hh
    refine wl (wl_val hl rfl trivial (r_nilCheck hl rfl) ?_)
    clear hl a; intro a hl
    refine wl (wl_val hl rfl trivial (r_field hl rfl fld93_2) ?_)
    clear hl a; intro a hl
    refine wl (w_store hl hh trivial one77 rfl rfl (by repeat (first | exact find_head | apply find_tail)) (by first | (simp; done) | (simp; omega) | (simp only [ZS.cells, List.length_cons, List.length_nil]; omega)) (by first | rfl | assumption | (apply Row.one; assumption)) (by first | (simp only [ZS.cells, setL, List.getElem?_cons_zero, List.getElem?_cons_succ, Value.cells, List.take_zero, List.take_succ_cons, List.take_nil, List.drop_zero, List.drop_succ_cons, List.drop_nil, List.length_cons, List.length_nil, List.cons_append, List.nil_append, List.append_nil, Nat.zero_add, Nat.add_zero, Nat.reduceAdd, Nat.reduceBEq, Nat.reduceEqDiff, Nat.ble, BEq.rfl, Bool.and_true, Bool.and_self, cond_true, beq_self_eq_true]; rfl) | (simp only [setL, List.getElem?_cons_zero, List.getElem?_cons_succ, Value.cells, List.take_zero, List.take_succ_cons, List.take_nil, List.drop_zero, List.drop_succ_cons, List.drop_nil, List.length_cons, List.length_nil, List.cons_append, List.nil_append, List.append_nil, Nat.zero_add, Nat.add_zero, Nat.reduceAdd, Nat.reduceBEq, Nat.reduceEqDiff, Nat.ble, BEq.rfl, Bool.and_true, Bool.and_self, cond_true, beq_self_eq_true]; rfl)) ?_)
    clear hh w; intro w hh
    refine w_nil ?_
    have hl2 := hl.nil; clear hl; have hl := hl2; clear hl2
    first
    | (refine f_end0 (F' := (b, C [sv, .int .i64 ((src.length - z.rest.length : Nat) : Int), .int .u8 z.tok.kind, .int .i64 (z.tp : Int), .string z.tok.txt, .int .u32 z.tok.val, .pointer (some ⟨k15, 0, none⟩)] 93) :: (k15, C [.int .u8 code, .int .i64 pp] 79) :: X) hl hh rfl (by repeat (first | exact keeps_nil | apply keeps_cons (by repeat (first | exact find_head | apply find_tail)) (by first  | rfl) | exact keeps_self | apply keeps_mv)) ?_; exact ⟨rfl, pz_fail hz ho hpn code pp k15⟩)
    | (refine f_end0 (F' := (b, C (z.cells src.length sv p) 93) :: X) hl hh rfl (by repeat (first | exact keeps_nil | apply keeps_cons (by repeat (first | exact find_head | apply find_tail)) (by first  | rfl) | exact keeps_self | apply keeps_mv)) ?_; exact ⟨rfl, pz_same hz ho (failZ_bad hen _ _)⟩)
  · intro hc0
    try simp only [decide_eq_true_eq, decide_eq_false_iff_not, Bool.not_eq_true', Bool.not_eq_false', Bool.not_eq_true, Bool.not_eq_false, Bool.and_eq_true, Bool.or_eq_true, Bool.and_eq_false_iff, Bool.or_eq_false_iff, Bool.not_not, ne_eq, Int.not_lt, Int.not_le, Decidable.not_not, beq_iff_eq, bne_iff_ne, Option.isNone_iff_eq_none, Option.isNone_eq_false_iff, Option.isSome_iff_ne_none] at hc0
    have hen := hz.bad hc0
    refine wp_skip ?_
    first
    | (refine f_end0 (F' := (b, C [sv, .int .i64 ((src.length - z.rest.length : Nat) : Int), .int .u8 z.tok.kind, .int .i64 (z.tp : Int), .string z.tok.txt, .int .u32 z.tok.val, .pointer (some ⟨k15, 0, none⟩)] 93) :: (k15, C [.int .u8 code, .int .i64 pp] 79) :: X) hl hh rfl (by repeat (first | exact keeps_nil | apply keeps_cons (by repeat (first | exact find_head | apply find_tail)) (by first  | rfl) | exact keeps_self | apply keeps_mv)) ?_; exact ⟨rfl, pz_fail hz ho hpn code pp k15⟩)
    | (refine f_end0 (F' := (b, C (z.cells src.length sv p) 93) :: X) hl hh rfl (by repeat (first | exact keeps_nil | apply keeps_cons (by repeat (first | exact find_head | apply find_tail)) (by first  | rfl) | exact keeps_self | apply keeps_mv)) ?_; exact ⟨rfl, pz_same hz ho (failZ_bad hen _ _)⟩)

set_option maxHeartbeats 1000000 in
theorem advanceF (b : Nat) (sv : Value) (src : List Int) (Sc : List (Nat × Obj)) (hS : SrcL sv src Sc) (z : ZS) (p : Option Addr) (X : List (Nat × Obj)) (hz : ZX Sc z p X) (ho : ZO src z)  : Sp Try.prog 34 #[.pointer (some ⟨b, 0, none⟩)] ((b, C (z.cells src.length sv p) 93) :: X) (fun v F' => v = .tuple #[] ∧ PZ b sv src Sc (advZ src.length z) F') := by
  refine f_enter (args := [.pointer (some ⟨b, 0, none⟩)]) Try.func34 rfl Try.ntmps34 rfl ?_
  intro w0 w a hpre hl hh
  have hrl := ho.restLe
  simp only [slotsFrom, Nat.reduceAdd] at hl
  refine c_seq ?_
  refine c_region ?_
  refine wl (wl_val hl rfl trivial (r_move hl rfl) ?_)
  clear hl a; intro a hl
  refine wl (wl_val hl rfl trivial (r_nilCheck hl rfl) ?_)
  clear hl a; intro a hl
  refine wl (wl_val hl rfl trivial (r_field hl rfl fld93_2) ?_)
  clear hl a; intro a hl
  refine wl (w_load hl hh rfl trivial one77 rfl (by repeat (first | exact find_head | apply find_tail)) (by first | rfl) ?_)
  clear hl a; intro a hl
  refine wl (wl_val hl rfl trivial (r_eql_pointer hl rfl rfl ptr77) ?_)
  clear hl a; intro a hl
  refine w_nil ?_
  have hl2 := hl.add (t := 0) (hl.add (t := 6) (hl.nil) rfl) rfl; clear hl; have hl := hl2; clear hl2
  refine then_normal ?_
  refine c_cond hl rfl ?_ ?_
  · intro hc0
    try simp only [decide_eq_true_eq, decide_eq_false_iff_not, Bool.not_eq_true', Bool.not_eq_false', Bool.not_eq_true, Bool.not_eq_false, Bool.and_eq_true, Bool.or_eq_true, Bool.and_eq_false_iff, Bool.or_eq_false_iff, Bool.not_not, ne_eq, Int.not_lt, Int.not_le, Decidable.not_not, beq_iff_eq, bne_iff_ne, Option.isNone_iff_eq_none, Option.isNone_eq_false_iff, Option.isSome_iff_ne_none] at hc0
    have hpn := hc0
    obtain ⟨_, rfl⟩ := hz.ok hc0
    refine c_region ?_
    refine wl (wl_val hl rfl trivial (r_move hl rfl) ?_)
    clear hl a; intro a hl
    refine wl (wl_val hl rfl trivial (r_move hl rfl) ?_)
    clear hl a; intro a hl
    refine wl (wl_val hl rfl trivial (r_move hl rfl) ?_)
    clear hl a; intro a hl
    refine wl (wl_val hl rfl trivial (r_nilCheck hl rfl) ?_)
    clear hl a; intro a hl
    refine wl (wl_val hl rfl trivial (r_field hl rfl fld93_0) ?_)
    clear hl a; intro a hl
    refine wl (w_call hl hh rfl trivial rfl cal52 rfl (nextF b sv src _ hS (src.length - z.rest.length) (Nat.sub_le _ _) (.int .u8 z.tok.kind) (.int .i64 (z.tp : Int)) (.string z.tok.txt) (.int .u32 z.tok.val) (.pointer p)) (by repeat (first | exact keeps_nil | apply keeps_cons (by repeat (first | exact find_head | apply find_tail)) (by first  | rfl) | exact keeps_self | apply keeps_mv)) trivial ?_)
    clear hl hh a w; intro vc Fc a w hR hl hh
    rcases hR with ⟨t1, ht1, rfl, rfl⟩ | ⟨ht1, k, rfl, rfl⟩
    ·
      try simp only [List.cons_append, List.nil_append, List.append_nil] at hh
      rw [ho.back] at ht1 hh hl
      refine wl (wl_val hl rfl trivial (r_move hl rfl) ?_)
      clear hl a; intro a hl
      refine wl (wl_val hl rfl trivial (r_extract hl rfl (by simp only [List.getElem?_toArray, List.getElem?_cons_zero, List.getElem?_cons_succ]; rfl)) ?_)
      clear hl a; intro a hl
      refine wl (wl_val hl rfl trivial (r_extract hl rfl (by simp only [List.getElem?_toArray, List.getElem?_cons_zero, List.getElem?_cons_succ]; rfl)) ?_)
      clear hl a; intro a hl
      refine wl (wl_val hl rfl trivial (r_nilCheck hl rfl) ?_)
      clear hl a; intro a hl
      refine wl (wl_val hl rfl trivial (r_field hl rfl fld93_1) ?_)
      clear hl a; intro a hl
      refine wl (w_storeA hl hh trivial agg91 rfl rfl (by repeat (first | exact find_head | apply find_tail)) (by first | rfl | (simp; done)) (by first | (simp; done) | (simp; omega) | (simp only [ZS.cells, List.length_cons, List.length_nil]; omega)) (by first | rfl | (simp; done)) (by first | (simp only [ZS.cells, setL, List.getElem?_cons_zero, List.getElem?_cons_succ, Value.cells, List.take_zero, List.take_succ_cons, List.take_nil, List.drop_zero, List.drop_succ_cons, List.drop_nil, List.length_cons, List.length_nil, List.cons_append, List.nil_append, List.append_nil, Nat.zero_add, Nat.add_zero, Nat.reduceAdd, Nat.reduceBEq, Nat.reduceEqDiff, Nat.ble, BEq.rfl, Bool.and_true, Bool.and_self, cond_true, beq_self_eq_true]; rfl) | (simp only [setL, List.getElem?_cons_zero, List.getElem?_cons_succ, Value.cells, List.take_zero, List.take_succ_cons, List.take_nil, List.drop_zero, List.drop_succ_cons, List.drop_nil, List.length_cons, List.length_nil, List.cons_append, List.nil_append, List.append_nil, Nat.zero_add, Nat.add_zero, Nat.reduceAdd, Nat.reduceBEq, Nat.reduceEqDiff, Nat.ble, BEq.rfl, Bool.and_true, Bool.and_self, cond_true, beq_self_eq_true]; rfl)) ?_)
      clear hh w; intro w hh
      refine wl (wl_val hl rfl trivial (r_nilCheck hl rfl) ?_)
      clear hl a; intro a hl
      refine wl (wl_val hl rfl trivial (r_field hl rfl fld93_2) ?_)
      clear hl a; intro a hl
      refine wl (w_store hl hh trivial one77 rfl rfl (by repeat (first | exact find_head | apply find_tail)) (by first | (simp; done) | (simp; omega) | (simp only [ZS.cells, List.length_cons, List.length_nil]; omega)) (by first | rfl | assumption | (apply Row.one; assumption)) (by first | (simp only [ZS.cells, setL, List.getElem?_cons_zero, List.getElem?_cons_succ, Value.cells, List.take_zero, List.take_succ_cons, List.take_nil, List.drop_zero, List.drop_succ_cons, List.drop_nil, List.length_cons, List.length_nil, List.cons_append, List.nil_append, List.append_nil, Nat.zero_add, Nat.add_zero, Nat.reduceAdd, Nat.reduceBEq, Nat.reduceEqDiff, Nat.ble, BEq.rfl, Bool.and_true, Bool.and_self, cond_true, beq_self_eq_true]; rfl) | (simp only [setL, List.getElem?_cons_zero, List.getElem?_cons_succ, Value.cells, List.take_zero, List.take_succ_cons, List.take_nil, List.drop_zero, List.drop_succ_cons, List.drop_nil, List.length_cons, List.length_nil, List.cons_append, List.nil_append, List.append_nil, Nat.zero_add, Nat.add_zero, Nat.reduceAdd, Nat.reduceBEq, Nat.reduceEqDiff, Nat.ble, BEq.rfl, Bool.and_true, Bool.and_self, cond_true, beq_self_eq_true]; rfl)) ?_)
      clear hh w; intro w hh
      refine w_nil ?_
      have hl2 := hl.nil; clear hl; have hl := hl2; clear hl2
      first
      | (refine f_end0 (F' := (b, C [sv, .int .i64 ((src.length - (lexL z.rest).rest.length : Nat) : Int), .int .u8 t1.kind, .int .i64 ((src.length - (lexL z.rest).st.length : Nat) : Int), .string t1.txt, .int .u32 t1.val, .pointer none] 93) :: X) hl hh rfl (by repeat (first | exact keeps_nil | apply keeps_cons (by repeat (first | exact find_head | apply find_tail)) (by first  | rfl) | exact keeps_self | apply keeps_mv)) ?_; exact ⟨rfl, pz_advT hz ho hpn ht1⟩)
      | (refine f_end0 (F' := (b, C [sv, .int .i64 ((src.length - (lexL z.rest).rest.length : Nat) : Int), .int .u8 0, .int .i64 0, .string ⟨#[]⟩, .int .u32 0, .pointer (some ⟨k, 0, none⟩)] 93) :: (k, C [.int .u8 (lexL z.rest).code, .int .i64 ((src.length - (lexL z.rest).st.length : Nat) : Int)] 79) :: X) hl hh rfl (by repeat (first | exact keeps_nil | apply keeps_cons (by repeat (first | exact find_head | apply find_tail)) (by first  | rfl) | exact keeps_self | apply keeps_mv)) ?_; exact ⟨rfl, pz_advE hz ho hpn ht1 k⟩)
      | (refine f_end0 (F' := (b, C (z.cells src.length sv p) 93) :: X) hl hh rfl (by repeat (first | exact keeps_nil | apply keeps_cons (by repeat (first | exact find_head | apply find_tail)) (by first  | rfl) | exact keeps_self | apply keeps_mv)) ?_; exact ⟨rfl, pz_same hz ho (advZ_bad hen)⟩)
    ·
      try simp only [List.cons_append, List.nil_append, List.append_nil] at hh
      rw [ho.back] at ht1 hh
      refine wl (wl_val hl rfl trivial (r_move hl rfl) ?_)
      clear hl a; intro a hl
      refine wl (wl_val hl rfl trivial (r_extract hl rfl (by simp only [List.getElem?_toArray, List.getElem?_cons_zero, List.getElem?_cons_succ]; rfl)) ?_)
      clear hl a; intro a hl
      refine wl (wl_val hl rfl trivial (r_extract hl rfl (by simp only [List.getElem?_toArray, List.getElem?_cons_zero, List.getElem?_cons_succ]; rfl)) ?_)
      clear hl a; intro a hl
      refine wl (wl_val hl rfl trivial (r_nilCheck hl rfl) ?_)
      clear hl a; intro a hl
      refine wl (wl_val hl rfl trivial (r_field hl rfl fld93_1) ?_)
      clear hl a; intro a hl
      refine wl (w_storeA hl hh trivial agg91 rfl rfl (by repeat (first | exact find_head | apply find_tail)) (by first | rfl | (simp; done)) (by first | (simp; done) | (simp; omega) | (simp only [ZS.cells, List.length_cons, List.length_nil]; omega)) (by first | rfl | (simp; done)) (by first | (simp only [ZS.cells, setL, List.getElem?_cons_zero, List.getElem?_cons_succ, Value.cells, List.take_zero, List.take_succ_cons, List.take_nil, List.drop_zero, List.drop_succ_cons, List.drop_nil, List.length_cons, List.length_nil, List.cons_append, List.nil_append, List.append_nil, Nat.zero_add, Nat.add_zero, Nat.reduceAdd, Nat.reduceBEq, Nat.reduceEqDiff, Nat.ble, BEq.rfl, Bool.and_true, Bool.and_self, cond_true, beq_self_eq_true]; rfl) | (simp only [setL, List.getElem?_cons_zero, List.getElem?_cons_succ, Value.cells, List.take_zero, List.take_succ_cons, List.take_nil, List.drop_zero, List.drop_succ_cons, List.drop_nil, List.length_cons, List.length_nil, List.cons_append, List.nil_append, List.append_nil, Nat.zero_add, Nat.add_zero, Nat.reduceAdd, Nat.reduceBEq, Nat.reduceEqDiff, Nat.ble, BEq.rfl, Bool.and_true, Bool.and_self, cond_true, beq_self_eq_true]; rfl)) ?_)
      clear hh w; intro w hh
      refine wl (wl_val hl rfl trivial (r_nilCheck hl rfl) ?_)
      clear hl a; intro a hl
      refine wl (wl_val hl rfl trivial (r_field hl rfl fld93_2) ?_)
      clear hl a; intro a hl
      refine wl (w_store hl hh trivial one77 rfl rfl (by repeat (first | exact find_head | apply find_tail)) (by first | (simp; done) | (simp; omega) | (simp only [ZS.cells, List.length_cons, List.length_nil]; omega)) (by first | rfl | assumption | (apply Row.one; assumption)) (by first | (simp only [ZS.cells, setL, List.getElem?_cons_zero, List.getElem?_cons_succ, Value.cells, List.take_zero, List.take_succ_cons, List.take_nil, List.drop_zero, List.drop_succ_cons, List.drop_nil, List.length_cons, List.length_nil, List.cons_append, List.nil_append, List.append_nil, Nat.zero_add, Nat.add_zero, Nat.reduceAdd, Nat.reduceBEq, Nat.reduceEqDiff, Nat.ble, BEq.rfl, Bool.and_true, Bool.and_self, cond_true, beq_self_eq_true]; rfl) | (simp only [setL, List.getElem?_cons_zero, List.getElem?_cons_succ, Value.cells, List.take_zero, List.take_succ_cons, List.take_nil, List.drop_zero, List.drop_succ_cons, List.drop_nil, List.length_cons, List.length_nil, List.cons_append, List.nil_append, List.append_nil, Nat.zero_add, Nat.add_zero, Nat.reduceAdd, Nat.reduceBEq, Nat.reduceEqDiff, Nat.ble, BEq.rfl, Bool.and_true, Bool.and_self, cond_true, beq_self_eq_true]; rfl)) ?_)
      clear hh w; intro w hh
      refine w_nil ?_
      have hl2 := hl.nil; clear hl; have hl := hl2; clear hl2
      first
      | (refine f_end0 (F' := (b, C [sv, .int .i64 ((src.length - (lexL z.rest).rest.length : Nat) : Int), .int .u8 t1.kind, .int .i64 ((src.length - (lexL z.rest).st.length : Nat) : Int), .string t1.txt, .int .u32 t1.val, .pointer none] 93) :: X) hl hh rfl (by repeat (first | exact keeps_nil | apply keeps_cons (by repeat (first | exact find_head | apply find_tail)) (by first  | rfl) | exact keeps_self | apply keeps_mv)) ?_; exact ⟨rfl, pz_advT hz ho hpn ht1⟩)
      | (refine f_end0 (F' := (b, C [sv, .int .i64 ((src.length - (lexL z.rest).rest.length : Nat) : Int), .int .u8 0, .int .i64 0, .string ⟨#[]⟩, .int .u32 0, .pointer (some ⟨k, 0, none⟩)] 93) :: (k, C [.int .u8 (lexL z.rest).code, .int .i64 ((src.length - (lexL z.rest).st.length : Nat) : Int)] 79) :: X) hl hh rfl (by repeat (first | exact keeps_nil | apply keeps_cons (by repeat (first | exact find_head | apply find_tail)) (by first  | rfl) | exact keeps_self | apply keeps_mv)) ?_; exact ⟨rfl, pz_advE hz ho hpn ht1 k⟩)
      | (refine f_end0 (F' := (b, C (z.cells src.length sv p) 93) :: X) hl hh rfl (by repeat (first | exact keeps_nil | apply keeps_cons (by repeat (first | exact find_head | apply find_tail)) (by first  | rfl) | exact keeps_self | apply keeps_mv)) ?_; exact ⟨rfl, pz_same hz ho (advZ_bad hen)⟩)
  · intro hc0
    try simp only [decide_eq_true_eq, decide_eq_false_iff_not, Bool.not_eq_true', Bool.not_eq_false', Bool.not_eq_true, Bool.not_eq_false, Bool.and_eq_true, Bool.or_eq_true, Bool.and_eq_false_iff, Bool.or_eq_false_iff, Bool.not_not, ne_eq, Int.not_lt, Int.not_le, Decidable.not_not, beq_iff_eq, bne_iff_ne, Option.isNone_iff_eq_none, Option.isNone_eq_false_iff, Option.isSome_iff_ne_none] at hc0
    have hen := hz.bad hc0
    refine wp_skip ?_
    first
    | (refine f_end0 (F' := (b, C [sv, .int .i64 ((src.length - (lexL z.rest).rest.length : Nat) : Int), .int .u8 t1.kind, .int .i64 ((src.length - (lexL z.rest).st.length : Nat) : Int), .string t1.txt, .int .u32 t1.val, .pointer none] 93) :: X) hl hh rfl (by repeat (first | exact keeps_nil | apply keeps_cons (by repeat (first | exact find_head | apply find_tail)) (by first  | rfl) | exact keeps_self | apply keeps_mv)) ?_; exact ⟨rfl, pz_advT hz ho hpn ht1⟩)
    | (refine f_end0 (F' := (b, C [sv, .int .i64 ((src.length - (lexL z.rest).rest.length : Nat) : Int), .int .u8 0, .int .i64 0, .string ⟨#[]⟩, .int .u32 0, .pointer (some ⟨k, 0, none⟩)] 93) :: (k, C [.int .u8 (lexL z.rest).code, .int .i64 ((src.length - (lexL z.rest).st.length : Nat) : Int)] 79) :: X) hl hh rfl (by repeat (first | exact keeps_nil | apply keeps_cons (by repeat (first | exact find_head | apply find_tail)) (by first  | rfl) | exact keeps_self | apply keeps_mv)) ?_; exact ⟨rfl, pz_advE hz ho hpn ht1 k⟩)
    | (refine f_end0 (F' := (b, C (z.cells src.length sv p) 93) :: X) hl hh rfl (by repeat (first | exact keeps_nil | apply keeps_cons (by repeat (first | exact find_head | apply find_tail)) (by first  | rfl) | exact keeps_self | apply keeps_mv)) ?_; exact ⟨rfl, pz_same hz ho (advZ_bad hen)⟩)

set_option maxHeartbeats 1000000 in
theorem unexpectedF (b : Nat) (sv : Value) (src : List Int) (Sc : List (Nat × Obj)) (hS : SrcL sv src Sc) (z : ZS) (p : Option Addr) (X : List (Nat × Obj)) (hz : ZX Sc z p X) (ho : ZO src z)  : Sp Try.prog 54 #[.pointer (some ⟨b, 0, none⟩)] ((b, C (z.cells src.length sv p) 93) :: X) (fun v F' => v = .tuple #[] ∧ PZ b sv src Sc (unexpZ z) F') := by
  refine f_enter (args := [.pointer (some ⟨b, 0, none⟩)]) Try.func54 rfl Try.ntmps54 rfl ?_
  intro w0 w a hpre hl hh
  simp only [slotsFrom, Nat.reduceAdd] at hl
  refine c_seq ?_
  refine c_region ?_
  refine wl (wl_val hl rfl trivial (r_move hl rfl) ?_)
  clear hl a; intro a hl
  refine wl (wl_val hl rfl trivial (r_nilCheck hl rfl) ?_)
  clear hl a; intro a hl
  refine wl (wl_val hl rfl trivial (r_field hl rfl fld93_1) ?_)
  clear hl a; intro a hl
  refine wl (wl_val hl rfl trivial (r_field hl rfl fld91_0) ?_)
  clear hl a; intro a hl
  refine wl (w_load hl hh rfl trivial one89 rfl (by repeat (first | exact find_head | apply find_tail)) (by first | rfl) ?_)
  clear hl a; intro a hl
  refine wl (wl_val hl rfl trivial (r_eql hl rfl rfl) ?_)
  clear hl a; intro a hl
  refine w_nil ?_
  have hl2 := hl.add (t := 0) (hl.add (t := 7) (hl.nil) rfl) rfl; clear hl; have hl := hl2; clear hl2
  refine then_normal ?_
  refine c_cond hl rfl ?_ ?_
  · intro hc0
    try simp only [decide_eq_true_eq, decide_eq_false_iff_not, Bool.not_eq_true', Bool.not_eq_false', Bool.not_eq_true, Bool.not_eq_false, Bool.and_eq_true, Bool.or_eq_true, Bool.and_eq_false_iff, Bool.or_eq_false_iff, Bool.not_not, ne_eq, Int.not_lt, Int.not_le, Decidable.not_not, beq_iff_eq, bne_iff_ne, Option.isNone_iff_eq_none, Option.isNone_eq_false_iff, Option.isSome_iff_ne_none] at hc0
    have hu : unexpZ z = failZ z 4 (z.tp : Int) := by unfold unexpZ; rw [if_pos hc0]
    refine c_region ?_
    refine wl (wl_val hl rfl trivial (r_move hl rfl) ?_)
    clear hl a; intro a hl
    refine wl (wl_val hl rfl trivial (r_move hl rfl) ?_)
    clear hl a; intro a hl
    refine wl (wl_val hl rfl trivial (r_nilCheck hl rfl) ?_)
    clear hl a; intro a hl
    refine wl (wl_val hl rfl trivial (r_field hl rfl fld93_1) ?_)
    clear hl a; intro a hl
    refine wl (wl_val hl rfl trivial (r_field hl rfl fld91_1) ?_)
    clear hl a; intro a hl
    refine wl (w_load hl hh rfl trivial one3 rfl (by repeat (first | exact find_head | apply find_tail)) (by first | rfl) ?_)
    clear hl a; intro a hl
    refine wl (w_call hl hh rfl trivial rfl cal39 rfl (failF b sv src Sc hS z p X hz ho _ _) (by repeat (first | exact keeps_nil | apply keeps_cons (by repeat (first | exact find_head | apply find_tail)) (by first  | rfl) | exact keeps_self | apply keeps_mv)) trivial ?_)
    clear hl hh a w; intro vc Fc a w hR hl hh
    obtain ⟨rfl, p1, X1, rfl, hz1, ho1⟩ := hR
    try simp only [List.cons_append, List.nil_append] at hh
    (try replace hh := has_tail1 hh); (try simp only [List.cons_append, List.nil_append, List.append_nil] at hh)
    refine w_nil ?_
    have hl2 := hl.nil; clear hl; have hl := hl2; clear hl2
    rw [← hu] at hh hz1 ho1
    refine f_end0 (F' := (b, C ((unexpZ z).cells src.length sv p1) 93) :: X1) hl hh rfl (by repeat (first | exact keeps_nil | apply keeps_cons (by repeat (first | exact find_head | apply find_tail)) (by first  | rfl) | exact keeps_self | apply keeps_mv)) ?_; exact ⟨rfl, p1, X1, rfl, hz1, ho1⟩
  · intro hc0
    try simp only [decide_eq_true_eq, decide_eq_false_iff_not, Bool.not_eq_true', Bool.not_eq_false', Bool.not_eq_true, Bool.not_eq_false, Bool.and_eq_true, Bool.or_eq_true, Bool.and_eq_false_iff, Bool.or_eq_false_iff, Bool.not_not, ne_eq, Int.not_lt, Int.not_le, Decidable.not_not, beq_iff_eq, bne_iff_ne, Option.isNone_iff_eq_none, Option.isNone_eq_false_iff, Option.isSome_iff_ne_none] at hc0
    have hu : unexpZ z = failZ z 2 (z.tp : Int) := by unfold unexpZ; rw [if_neg hc0]
    refine c_region ?_
    refine wl (wl_val hl rfl trivial (r_move hl rfl) ?_)
    clear hl a; intro a hl
    refine wl (wl_val hl rfl trivial (r_move hl rfl) ?_)
    clear hl a; intro a hl
    refine wl (wl_val hl rfl trivial (r_nilCheck hl rfl) ?_)
    clear hl a; intro a hl
    refine wl (wl_val hl rfl trivial (r_field hl rfl fld93_1) ?_)
    clear hl a; intro a hl
    refine wl (wl_val hl rfl trivial (r_field hl rfl fld91_1) ?_)
    clear hl a; intro a hl
    refine wl (w_load hl hh rfl trivial one3 rfl (by repeat (first | exact find_head | apply find_tail)) (by first | rfl) ?_)
    clear hl a; intro a hl
    refine wl (w_call hl hh rfl trivial rfl cal39 rfl (failF b sv src Sc hS z p X hz ho _ _) (by repeat (first | exact keeps_nil | apply keeps_cons (by repeat (first | exact find_head | apply find_tail)) (by first  | rfl) | exact keeps_self | apply keeps_mv)) trivial ?_)
    clear hl hh a w; intro vc Fc a w hR hl hh
    obtain ⟨rfl, p1, X1, rfl, hz1, ho1⟩ := hR
    try simp only [List.cons_append, List.nil_append] at hh
    (try replace hh := has_tail1 hh); (try simp only [List.cons_append, List.nil_append, List.append_nil] at hh)
    refine w_nil ?_
    have hl2 := hl.nil; clear hl; have hl := hl2; clear hl2
    rw [← hu] at hh hz1 ho1
    refine f_end0 (F' := (b, C ((unexpZ z).cells src.length sv p1) 93) :: X1) hl hh rfl (by repeat (first | exact keeps_nil | apply keeps_cons (by repeat (first | exact find_head | apply find_tail)) (by first  | rfl) | exact keeps_self | apply keeps_mv)) ?_; exact ⟨rfl, p1, X1, rfl, hz1, ho1⟩

set_option maxHeartbeats 1000000 in
theorem wordF (b : Nat) (sv : Value) (src : List Int) (Sc : List (Nat × Obj)) (hS : SrcL sv src Sc) (z : ZS) (p : Option Addr) (X : List (Nat × Obj)) (hz : ZX Sc z p X) (ho : ZO src z)  : Sp Try.prog 55 #[.pointer (some ⟨b, 0, none⟩)] ((b, C (z.cells src.length sv p) 93) :: X) (fun v F' => v = .string (wordZ src.length z).1 ∧ PZ b sv src Sc ((wordZ src.length z).2) F') := by
  refine f_enter (args := [.pointer (some ⟨b, 0, none⟩)]) Try.func55 rfl Try.ntmps55 rfl ?_
  intro w0 w a hpre hl hh
  simp only [slotsFrom, Nat.reduceAdd] at hl
  refine c_seq ?_
  refine c_region ?_
  refine wl (wl_val hl rfl trivial (r_assign hl rfl) ?_)
  clear hl a; intro a hl
  refine w_nil ?_
  have hl2 := hl.add (t := 0) (hl.nil) rfl; clear hl; have hl := hl2; clear hl2
  refine then_normal ?_
  refine c_seq ?_
  refine c_seq ?_
  refine c_region ?_
  refine wl (wl_val hl rfl trivial (r_move hl rfl) ?_)
  clear hl a; intro a hl
  refine wl (wl_val hl rfl trivial (r_nilCheck hl rfl) ?_)
  clear hl a; intro a hl
  refine wl (wl_val hl rfl trivial (r_field hl rfl fld93_2) ?_)
  clear hl a; intro a hl
  refine wl (w_load hl hh rfl trivial one77 rfl (by repeat (first | exact find_head | apply find_tail)) (by first | rfl) ?_)
  clear hl a; intro a hl
  refine wl (wl_val hl rfl trivial (r_neq_pointer hl rfl rfl ptr77) ?_)
  clear hl a; intro a hl
  refine w_nil ?_
  have hl2 := hl.add (t := 0) (hl.add (t := 8) (hl.nil) rfl) rfl; clear hl; have hl := hl2; clear hl2
  refine then_normal ?_
  refine c_cond hl rfl ?_ ?_
  · intro hc0
    try simp only [decide_eq_true_eq, decide_eq_false_iff_not, Bool.not_eq_true', Bool.not_eq_false', Bool.not_eq_true, Bool.not_eq_false, Bool.and_eq_true, Bool.or_eq_true, Bool.and_eq_false_iff, Bool.or_eq_false_iff, Bool.not_not, ne_eq, Int.not_lt, Int.not_le, Decidable.not_not, beq_iff_eq, bne_iff_ne, Option.isNone_iff_eq_none, Option.isNone_eq_false_iff, Option.isSome_iff_ne_none] at hc0
    have hen := hz.bad hc0
    refine c_seq ?_
    refine c_region ?_
    refine wl (wl_val hl rfl trivial (r_assign hl rfl) ?_)
    clear hl a; intro a hl
    refine w_nil ?_
    have hl2 := hl.add (t := 2) (hl.nil) rfl; clear hl; have hl := hl2; clear hl2
    refine then_normal ?_
    refine wp_ret ?_
    refine then_ret ?_
    refine f_ret1 (F' := (b, C (z.cells src.length sv p) 93) :: X) hl hh rfl rfl (by repeat (first | exact keeps_nil | apply keeps_cons (by repeat (first | exact find_head | apply find_tail)) (by first  | rfl) | exact keeps_self | apply keeps_mv)) ?_
    exact ⟨by rw [wordZ_e hen], pz_same hz ho (by rw [wordZ_e hen])⟩
  · intro hc0
    try simp only [decide_eq_true_eq, decide_eq_false_iff_not, Bool.not_eq_true', Bool.not_eq_false', Bool.not_eq_true, Bool.not_eq_false, Bool.and_eq_true, Bool.or_eq_true, Bool.and_eq_false_iff, Bool.or_eq_false_iff, Bool.not_not, ne_eq, Int.not_lt, Int.not_le, Decidable.not_not, beq_iff_eq, bne_iff_ne, Option.isNone_iff_eq_none, Option.isNone_eq_false_iff, Option.isSome_iff_ne_none] at hc0
    have hen := hz.good hc0
    refine wp_skip ?_
    refine then_normal ?_
    refine c_seq ?_
    refine c_seq ?_
    refine c_region ?_
    refine wl (wl_val hl rfl trivial (r_move hl rfl) ?_)
    clear hl a; intro a hl
    refine wl (wl_val hl rfl trivial (r_nilCheck hl rfl) ?_)
    clear hl a; intro a hl
    refine wl (wl_val hl rfl trivial (r_field hl rfl fld93_1) ?_)
    clear hl a; intro a hl
    refine wl (wl_val hl rfl trivial (r_field hl rfl fld91_0) ?_)
    clear hl a; intro a hl
    refine wl (w_load hl hh rfl trivial one89 rfl (by repeat (first | exact find_head | apply find_tail)) (by first | rfl) ?_)
    clear hl a; intro a hl
    refine wl (wl_val hl rfl trivial (r_neq hl rfl rfl) ?_)
    clear hl a; intro a hl
    refine w_nil ?_
    have hl2 := hl.add (t := 0) (hl.add (t := 14) (hl.nil) rfl) rfl; clear hl; have hl := hl2; clear hl2
    refine then_normal ?_
    refine c_cond hl rfl ?_ ?_
    · intro hc1
      try simp only [decide_eq_true_eq, decide_eq_false_iff_not, Bool.not_eq_true', Bool.not_eq_false', Bool.not_eq_true, Bool.not_eq_false, Bool.and_eq_true, Bool.or_eq_true, Bool.and_eq_false_iff, Bool.or_eq_false_iff, Bool.not_not, ne_eq, Int.not_lt, Int.not_le, Decidable.not_not, beq_iff_eq, bne_iff_ne, Option.isNone_iff_eq_none, Option.isNone_eq_false_iff, Option.isSome_iff_ne_none] at hc1
      refine c_seq ?_
      refine c_region ?_
      refine wl (wl_val hl rfl trivial (r_move hl rfl) ?_)
      clear hl a; intro a hl
      refine wl (w_call hl hh rfl trivial rfl cal54 rfl (unexpectedF b sv src Sc hS z p X hz ho) (by repeat (first | exact keeps_nil | apply keeps_cons (by repeat (first | exact find_head | apply find_tail)) (by first  | rfl) | exact keeps_self | apply keeps_mv)) trivial ?_)
      clear hl hh a w; intro vc Fc a w hR hl hh
      obtain ⟨rfl, p1, X1, rfl, hz1, ho1⟩ := hR
      try simp only [List.cons_append, List.nil_append] at hh
      (try replace hh := has_tail1 hh); (try simp only [List.cons_append, List.nil_append, List.append_nil] at hh)
      refine w_nil ?_
      have hl2 := hl.nil; clear hl; have hl := hl2; clear hl2
      refine then_normal ?_
      refine c_seq ?_
      refine c_region ?_
      refine wl (wl_val hl rfl trivial (r_assign hl rfl) ?_)
      clear hl a; intro a hl
      refine w_nil ?_
      have hl2 := hl.add (t := 2) (hl.nil) rfl; clear hl; have hl := hl2; clear hl2
      refine then_normal ?_
      refine wp_ret ?_
      refine then_ret ?_
      refine f_ret1 (F' := (b, C ((unexpZ z).cells src.length sv p1) 93) :: X1) hl hh rfl rfl (by repeat (first | exact keeps_nil | apply keeps_cons (by repeat (first | exact find_head | apply find_tail)) (by first  | rfl) | exact keeps_self | apply keeps_mv)) ?_
      rw [wordZ_u hen hc1]; exact ⟨rfl, p1, X1, rfl, hz1, ho1⟩
    · intro hc1
      try simp only [decide_eq_true_eq, decide_eq_false_iff_not, Bool.not_eq_true', Bool.not_eq_false', Bool.not_eq_true, Bool.not_eq_false, Bool.and_eq_true, Bool.or_eq_true, Bool.and_eq_false_iff, Bool.or_eq_false_iff, Bool.not_not, ne_eq, Int.not_lt, Int.not_le, Decidable.not_not, beq_iff_eq, bne_iff_ne, Option.isNone_iff_eq_none, Option.isNone_eq_false_iff, Option.isSome_iff_ne_none] at hc1
      refine wp_skip ?_
      refine then_normal ?_
      refine c_seq ?_
      refine c_region ?_
      refine wl (wl_val hl rfl trivial (r_move hl rfl) ?_)
      clear hl a; intro a hl
      refine wl (wl_val hl rfl trivial (r_nilCheck hl rfl) ?_)
      clear hl a; intro a hl
      refine wl (wl_val hl rfl trivial (r_field hl rfl fld93_1) ?_)
      clear hl a; intro a hl
      refine wl (wl_val hl rfl trivial (r_field hl rfl fld91_2) ?_)
      clear hl a; intro a hl
      refine wl (w_load hl hh rfl trivial one9 rfl (by repeat (first | exact find_head | apply find_tail)) (by first | rfl) ?_)
      clear hl a; intro a hl
      refine wl (wl_val hl rfl trivial (r_assign hl rfl) ?_)
      clear hl a; intro a hl
      refine w_nil ?_
      have hl2 := hl.add (t := 0) (hl.add (t := 3) (hl.nil) rfl) rfl; clear hl; have hl := hl2; clear hl2
      refine then_normal ?_
      refine c_seq ?_
      refine c_region ?_
      refine wl (wl_val hl rfl trivial (r_move hl rfl) ?_)
      clear hl a; intro a hl
      refine wl (w_call hl hh rfl trivial rfl cal34 rfl (advanceF b sv src Sc hS z p X hz ho) (by repeat (first | exact keeps_nil | apply keeps_cons (by repeat (first | exact find_head | apply find_tail)) (by first  | rfl) | exact keeps_self | apply keeps_mv)) trivial ?_)
      clear hl hh a w; intro vc Fc a w hR hl hh
      obtain ⟨rfl, p1, X1, rfl, hz1, ho1⟩ := hR
      try simp only [List.cons_append, List.nil_append] at hh
      (try replace hh := has_tail1 hh); (try simp only [List.cons_append, List.nil_append, List.append_nil] at hh)
      refine w_nil ?_
      have hl2 := hl.add (t := 3) (hl.nil) rfl; clear hl; have hl := hl2; clear hl2
      refine then_normal ?_
      refine c_seq ?_
      refine c_region ?_
      refine wl (wl_val hl rfl trivial (r_move hl rfl) ?_)
      clear hl a; intro a hl
      refine wl (wl_val hl rfl trivial (r_assign hl rfl) ?_)
      clear hl a; intro a hl
      refine w_nil ?_
      have hl2 := hl.add (t := 2) (hl.nil) rfl; clear hl; have hl := hl2; clear hl2
      refine then_normal ?_
      refine wp_ret ?_
      refine f_ret1 (F' := (b, C ((advZ src.length z).cells src.length sv p1) 93) :: X1) hl hh rfl rfl (by repeat (first | exact keeps_nil | apply keeps_cons (by repeat (first | exact find_head | apply find_tail)) (by first  | rfl) | exact keeps_self | apply keeps_mv)) ?_
      rw [wordZ_w hen hc1]; exact ⟨rfl, p1, X1, rfl, hz1, ho1⟩

set_option maxHeartbeats 1000000 in
theorem numberF (b : Nat) (sv : Value) (src : List Int) (Sc : List (Nat × Obj)) (hS : SrcL sv src Sc) (z : ZS) (p : Option Addr) (X : List (Nat × Obj)) (hz : ZX Sc z p X) (ho : ZO src z) (mx code : Int) : Sp Try.prog 37 #[.pointer (some ⟨b, 0, none⟩), .int .u32 mx, .int .u8 code] ((b, C (z.cells src.length sv p) 93) :: X) (fun v F' => v = .int .u32 (numZ src.length z mx code).1 ∧ PZ b sv src Sc ((numZ src.length z mx code).2) F') := by
  refine f_enter (args := [.pointer (some ⟨b, 0, none⟩), .int .u32 mx, .int .u8 code]) Try.func37 rfl Try.ntmps37 rfl ?_
  intro w0 w a hpre hl hh
  simp only [slotsFrom, Nat.reduceAdd] at hl
  refine c_seq ?_
  refine c_region ?_
  refine wl (wl_val hl rfl trivial (r_assign hl rfl) ?_)
  clear hl a; intro a hl
  refine w_nil ?_
  have hl2 := hl.add (t := 0) (hl.add (t := 1) (hl.add (t := 2) (hl.nil) rfl) rfl) rfl; clear hl; have hl := hl2; clear hl2
  refine then_normal ?_
  refine c_seq ?_
  refine c_seq ?_
  refine c_region ?_
  refine wl (wl_val hl rfl trivial (r_move hl rfl) ?_)
  clear hl a; intro a hl
  refine wl (wl_val hl rfl trivial (r_nilCheck hl rfl) ?_)
  clear hl a; intro a hl
  refine wl (wl_val hl rfl trivial (r_field hl rfl fld93_2) ?_)
  clear hl a; intro a hl
  refine wl (w_load hl hh rfl trivial one77 rfl (by repeat (first | exact find_head | apply find_tail)) (by first | rfl) ?_)
  clear hl a; intro a hl
  refine wl (wl_val hl rfl trivial (r_neq_pointer hl rfl rfl ptr77) ?_)
  clear hl a; intro a hl
  refine w_nil ?_
  have hl2 := hl.add (t := 0) (hl.add (t := 1) (hl.add (t := 2) (hl.add (t := 12) (hl.nil) rfl) rfl) rfl) rfl; clear hl; have hl := hl2; clear hl2
  refine then_normal ?_
  refine c_cond hl rfl ?_ ?_
  · intro hc0
    try simp only [decide_eq_true_eq, decide_eq_false_iff_not, Bool.not_eq_true', Bool.not_eq_false', Bool.not_eq_true, Bool.not_eq_false, Bool.and_eq_true, Bool.or_eq_true, Bool.and_eq_false_iff, Bool.or_eq_false_iff, Bool.not_not, ne_eq, Int.not_lt, Int.not_le, Decidable.not_not, beq_iff_eq, bne_iff_ne, Option.isNone_iff_eq_none, Option.isNone_eq_false_iff, Option.isSome_iff_ne_none] at hc0
    have hen := hz.bad hc0
    refine c_seq ?_
    refine c_region ?_
    refine wl (wl_val hl rfl trivial (r_assign hl rfl) ?_)
    clear hl a; intro a hl
    refine w_nil ?_
    have hl2 := hl.add (t := 6) (hl.nil) rfl; clear hl; have hl := hl2; clear hl2
    refine then_normal ?_
    refine wp_ret ?_
    refine then_ret ?_
    refine f_ret1 (F' := (b, C (z.cells src.length sv p) 93) :: X) hl hh rfl rfl (by repeat (first | exact keeps_nil | apply keeps_cons (by repeat (first | exact find_head | apply find_tail)) (by first  | rfl) | exact keeps_self | apply keeps_mv)) ?_
    exact ⟨by rw [numZ_e hen], pz_same hz ho (by rw [numZ_e hen])⟩
  · intro hc0
    try simp only [decide_eq_true_eq, decide_eq_false_iff_not, Bool.not_eq_true', Bool.not_eq_false', Bool.not_eq_true, Bool.not_eq_false, Bool.and_eq_true, Bool.or_eq_true, Bool.and_eq_false_iff, Bool.or_eq_false_iff, Bool.not_not, ne_eq, Int.not_lt, Int.not_le, Decidable.not_not, beq_iff_eq, bne_iff_ne, Option.isNone_iff_eq_none, Option.isNone_eq_false_iff, Option.isSome_iff_ne_none] at hc0
    have hen := hz.good hc0
    refine wp_skip ?_
    refine then_normal ?_
    refine c_seq ?_
    refine c_seq ?_
    refine c_region ?_
    refine wl (wl_val hl rfl trivial (r_move hl rfl) ?_)
    clear hl a; intro a hl
    refine wl (wl_val hl rfl trivial (r_nilCheck hl rfl) ?_)
    clear hl a; intro a hl
    refine wl (wl_val hl rfl trivial (r_field hl rfl fld93_1) ?_)
    clear hl a; intro a hl
    refine wl (wl_val hl rfl trivial (r_field hl rfl fld91_0) ?_)
    clear hl a; intro a hl
    refine wl (w_load hl hh rfl trivial one89 rfl (by repeat (first | exact find_head | apply find_tail)) (by first | rfl) ?_)
    clear hl a; intro a hl
    refine wl (wl_val hl rfl trivial (r_neq hl rfl rfl) ?_)
    clear hl a; intro a hl
    refine w_nil ?_
    have hl2 := hl.add (t := 0) (hl.add (t := 1) (hl.add (t := 2) (hl.add (t := 18) (hl.nil) rfl) rfl) rfl) rfl; clear hl; have hl := hl2; clear hl2
    refine then_normal ?_
    refine c_cond hl rfl ?_ ?_
    · intro hc1
      try simp only [decide_eq_true_eq, decide_eq_false_iff_not, Bool.not_eq_true', Bool.not_eq_false', Bool.not_eq_true, Bool.not_eq_false, Bool.and_eq_true, Bool.or_eq_true, Bool.and_eq_false_iff, Bool.or_eq_false_iff, Bool.not_not, ne_eq, Int.not_lt, Int.not_le, Decidable.not_not, beq_iff_eq, bne_iff_ne, Option.isNone_iff_eq_none, Option.isNone_eq_false_iff, Option.isSome_iff_ne_none] at hc1
      refine c_seq ?_
      refine c_region ?_
      refine wl (wl_val hl rfl trivial (r_move hl rfl) ?_)
      clear hl a; intro a hl
      refine wl (w_call hl hh rfl trivial rfl cal54 rfl (unexpectedF b sv src Sc hS z p X hz ho) (by repeat (first | exact keeps_nil | apply keeps_cons (by repeat (first | exact find_head | apply find_tail)) (by first  | rfl) | exact keeps_self | apply keeps_mv)) trivial ?_)
      clear hl hh a w; intro vc Fc a w hR hl hh
      obtain ⟨rfl, p1, X1, rfl, hz1, ho1⟩ := hR
      try simp only [List.cons_append, List.nil_append] at hh
      (try replace hh := has_tail1 hh); (try simp only [List.cons_append, List.nil_append, List.append_nil] at hh)
      refine w_nil ?_
      have hl2 := hl.nil; clear hl; have hl := hl2; clear hl2
      refine then_normal ?_
      refine c_seq ?_
      refine c_region ?_
      refine wl (wl_val hl rfl trivial (r_assign hl rfl) ?_)
      clear hl a; intro a hl
      refine w_nil ?_
      have hl2 := hl.add (t := 6) (hl.nil) rfl; clear hl; have hl := hl2; clear hl2
      refine then_normal ?_
      refine wp_ret ?_
      refine then_ret ?_
      refine f_ret1 (F' := (b, C ((unexpZ z).cells src.length sv p1) 93) :: X1) hl hh rfl rfl (by repeat (first | exact keeps_nil | apply keeps_cons (by repeat (first | exact find_head | apply find_tail)) (by first  | rfl) | exact keeps_self | apply keeps_mv)) ?_
      rw [numZ_u hen hc1]; exact ⟨rfl, p1, X1, rfl, hz1, ho1⟩
    · intro hc1
      try simp only [decide_eq_true_eq, decide_eq_false_iff_not, Bool.not_eq_true', Bool.not_eq_false', Bool.not_eq_true, Bool.not_eq_false, Bool.and_eq_true, Bool.or_eq_true, Bool.and_eq_false_iff, Bool.or_eq_false_iff, Bool.not_not, ne_eq, Int.not_lt, Int.not_le, Decidable.not_not, beq_iff_eq, bne_iff_ne, Option.isNone_iff_eq_none, Option.isNone_eq_false_iff, Option.isSome_iff_ne_none] at hc1
      refine wp_skip ?_
      refine then_normal ?_
      refine c_seq ?_
      refine c_region ?_
      refine wl (wl_val hl rfl trivial (r_move hl rfl) ?_)
      clear hl a; intro a hl
      refine wl (wl_val hl rfl trivial (r_nilCheck hl rfl) ?_)
      clear hl a; intro a hl
      refine wl (wl_val hl rfl trivial (r_field hl rfl fld93_1) ?_)
      clear hl a; intro a hl
      refine wl (wl_val hl rfl trivial (r_field hl rfl fld91_3) ?_)
      clear hl a; intro a hl
      refine wl (w_load hl hh rfl trivial one34 rfl (by repeat (first | exact find_head | apply find_tail)) (by first | rfl) ?_)
      clear hl a; intro a hl
      refine wl (wl_val hl rfl trivial (r_assign hl rfl) ?_)
      clear hl a; intro a hl
      refine w_nil ?_
      have hl2 := hl.add (t := 0) (hl.add (t := 1) (hl.add (t := 2) (hl.add (t := 7) (hl.nil) rfl) rfl) rfl) rfl; clear hl; have hl := hl2; clear hl2
      refine then_normal ?_
      refine c_seq ?_
      refine c_seq ?_
      refine c_region ?_
      refine wl (wl_val hl rfl trivial (r_move hl rfl) ?_)
      clear hl a; intro a hl
      refine wl (wl_val hl rfl trivial (r_move hl rfl) ?_)
      clear hl a; intro a hl
      refine wl (wl_val hl rfl trivial (r_gtr hl rfl rfl) ?_)
      clear hl a; intro a hl
      refine w_nil ?_
      have hl2 := hl.add (t := 0) (hl.add (t := 2) (hl.add (t := 7) (hl.add (t := 28) (hl.nil) rfl) rfl) rfl) rfl; clear hl; have hl := hl2; clear hl2
      refine then_normal ?_
      refine c_cond hl rfl ?_ ?_
      · intro hc2
        try simp only [decide_eq_true_eq, decide_eq_false_iff_not, Bool.not_eq_true', Bool.not_eq_false', Bool.not_eq_true, Bool.not_eq_false, Bool.and_eq_true, Bool.or_eq_true, Bool.and_eq_false_iff, Bool.or_eq_false_iff, Bool.not_not, ne_eq, Int.not_lt, Int.not_le, Decidable.not_not, beq_iff_eq, bne_iff_ne, Option.isNone_iff_eq_none, Option.isNone_eq_false_iff, Option.isSome_iff_ne_none] at hc2
        refine c_seq ?_
        refine c_region ?_
        refine wl (wl_val hl rfl trivial (r_move hl rfl) ?_)
        clear hl a; intro a hl
        refine wl (wl_val hl rfl trivial (r_move hl rfl) ?_)
        clear hl a; intro a hl
        refine wl (wl_val hl rfl trivial (r_move hl rfl) ?_)
        clear hl a; intro a hl
        refine wl (wl_val hl rfl trivial (r_nilCheck hl rfl) ?_)
        clear hl a; intro a hl
        refine wl (wl_val hl rfl trivial (r_field hl rfl fld93_1) ?_)
        clear hl a; intro a hl
        refine wl (wl_val hl rfl trivial (r_field hl rfl fld91_1) ?_)
        clear hl a; intro a hl
        refine wl (w_load hl hh rfl trivial one3 rfl (by repeat (first | exact find_head | apply find_tail)) (by first | rfl) ?_)
        clear hl a; intro a hl
        refine wl (w_call hl hh rfl trivial rfl cal39 rfl (failF b sv src Sc hS z p X hz ho _ _) (by repeat (first | exact keeps_nil | apply keeps_cons (by repeat (first | exact find_head | apply find_tail)) (by first  | rfl) | exact keeps_self | apply keeps_mv)) trivial ?_)
        clear hl hh a w; intro vc Fc a w hR hl hh
        obtain ⟨rfl, p1, X1, rfl, hz1, ho1⟩ := hR
        try simp only [List.cons_append, List.nil_append] at hh
        (try replace hh := has_tail1 hh); (try simp only [List.cons_append, List.nil_append, List.append_nil] at hh)
        refine w_nil ?_
        have hl2 := hl.nil; clear hl; have hl := hl2; clear hl2
        refine then_normal ?_
        refine c_seq ?_
        refine c_region ?_
        refine wl (wl_val hl rfl trivial (r_assign hl rfl) ?_)
        clear hl a; intro a hl
        refine w_nil ?_
        have hl2 := hl.add (t := 6) (hl.nil) rfl; clear hl; have hl := hl2; clear hl2
        refine then_normal ?_
        refine wp_ret ?_
        refine then_ret ?_
        refine f_ret1 (F' := (b, C ((failZ z code (z.tp : Int)).cells src.length sv p1) 93) :: X1) hl hh rfl rfl (by repeat (first | exact keeps_nil | apply keeps_cons (by repeat (first | exact find_head | apply find_tail)) (by first  | rfl) | exact keeps_self | apply keeps_mv)) ?_
        rw [numZ_f hen hc1 hc2]; exact ⟨rfl, p1, X1, rfl, hz1, ho1⟩
      · intro hc2
        try simp only [decide_eq_true_eq, decide_eq_false_iff_not, Bool.not_eq_true', Bool.not_eq_false', Bool.not_eq_true, Bool.not_eq_false, Bool.and_eq_true, Bool.or_eq_true, Bool.and_eq_false_iff, Bool.or_eq_false_iff, Bool.not_not, ne_eq, Int.not_lt, Int.not_le, Decidable.not_not, beq_iff_eq, bne_iff_ne, Option.isNone_iff_eq_none, Option.isNone_eq_false_iff, Option.isSome_iff_ne_none] at hc2
        refine wp_skip ?_
        refine then_normal ?_
        refine c_seq ?_
        refine c_region ?_
        refine wl (wl_val hl rfl trivial (r_move hl rfl) ?_)
        clear hl a; intro a hl
        refine wl (w_call hl hh rfl trivial rfl cal34 rfl (advanceF b sv src Sc hS z p X hz ho) (by repeat (first | exact keeps_nil | apply keeps_cons (by repeat (first | exact find_head | apply find_tail)) (by first  | rfl) | exact keeps_self | apply keeps_mv)) trivial ?_)
        clear hl hh a w; intro vc Fc a w hR hl hh
        obtain ⟨rfl, p1, X1, rfl, hz1, ho1⟩ := hR
        try simp only [List.cons_append, List.nil_append] at hh
        (try replace hh := has_tail1 hh); (try simp only [List.cons_append, List.nil_append, List.append_nil] at hh)
        refine w_nil ?_
        have hl2 := hl.add (t := 7) (hl.nil) rfl; clear hl; have hl := hl2; clear hl2
        refine then_normal ?_
        refine c_seq ?_
        refine c_region ?_
        refine wl (wl_val hl rfl trivial (r_move hl rfl) ?_)
        clear hl a; intro a hl
        refine wl (wl_val hl rfl trivial (r_assign hl rfl) ?_)
        clear hl a; intro a hl
        refine w_nil ?_
        have hl2 := hl.add (t := 6) (hl.nil) rfl; clear hl; have hl := hl2; clear hl2
        refine then_normal ?_
        refine wp_ret ?_
        refine f_ret1 (F' := (b, C ((advZ src.length z).cells src.length sv p1) 93) :: X1) hl hh rfl rfl (by repeat (first | exact keeps_nil | apply keeps_cons (by repeat (first | exact find_head | apply find_tail)) (by first  | rfl) | exact keeps_self | apply keeps_mv)) ?_
        rw [numZ_n hen hc1 (by omega)]; exact ⟨rfl, p1, X1, rfl, hz1, ho1⟩

set_option maxHeartbeats 1000000 in
theorem keywordF (b : Nat) (sv : Value) (src : List Int) (Sc : List (Nat × Obj)) (hS : SrcL sv src Sc) (z : ZS) (p : Option Addr) (X : List (Nat × Obj)) (hz : ZX Sc z p X) (ho : ZO src z) (s1 s2 : ByteArray) : Sp Try.prog 53 #[.pointer (some ⟨b, 0, none⟩), .string s1, .string s2] ((b, C (z.cells src.length sv p) 93) :: X) (fun v F' => v = .bool (kwZ src.length z s1 s2).1 ∧ PZ b sv src Sc ((kwZ src.length z s1 s2).2) F') := by
  refine f_enter (args := [.pointer (some ⟨b, 0, none⟩), .string s1, .string s2]) Try.func53 rfl Try.ntmps53 rfl ?_
  intro w0 w a hpre hl hh
  simp only [slotsFrom, Nat.reduceAdd] at hl
  refine c_seq ?_
  refine c_region ?_
  refine wl (wl_val hl rfl trivial (r_assign hl rfl) ?_)
  clear hl a; intro a hl
  refine w_nil ?_
  have hl2 := hl.add (t := 0) (hl.add (t := 1) (hl.add (t := 2) (hl.nil) rfl) rfl) rfl; clear hl; have hl := hl2; clear hl2
  refine then_normal ?_
  refine c_seq ?_
  refine c_region ?_
  refine wl (wl_val hl rfl trivial (r_move hl rfl) ?_)
  clear hl a; intro a hl
  refine wl (wl_val hl rfl trivial (r_nilCheck hl rfl) ?_)
  clear hl a; intro a hl
  refine wl (wl_val hl rfl trivial (r_field hl rfl fld93_1) ?_)
  clear hl a; intro a hl
  refine wl (wl_val hl rfl trivial (r_field hl rfl fld91_1) ?_)
  clear hl a; intro a hl
  refine wl (w_load hl hh rfl trivial one3 rfl (by repeat (first | exact find_head | apply find_tail)) (by first | rfl) ?_)
  clear hl a; intro a hl
  refine wl (wl_val hl rfl trivial (r_assign hl rfl) ?_)
  clear hl a; intro a hl
  refine w_nil ?_
  have hl2 := hl.add (t := 0) (hl.add (t := 1) (hl.add (t := 2) (hl.add (t := 7) (hl.nil) rfl) rfl) rfl) rfl; clear hl; have hl := hl2; clear hl2
  refine then_normal ?_
  refine c_seq ?_
  refine c_region ?_
  refine wl (wl_val hl rfl trivial (r_move hl rfl) ?_)
  clear hl a; intro a hl
  refine wl (w_call hl hh rfl trivial rfl cal55 rfl (wordF b sv src Sc hS z p X hz ho) (by repeat (first | exact keeps_nil | apply keeps_cons (by repeat (first | exact find_head | apply find_tail)) (by first  | rfl) | exact keeps_self | apply keeps_mv)) trivial ?_)
  clear hl hh a w; intro vc Fc a w hR hl hh
  obtain ⟨rfl, p1, X1, rfl, hz1, ho1⟩ := hR
  try simp only [List.cons_append, List.nil_append] at hh
  (try replace hh := has_tail1 hh); (try simp only [List.cons_append, List.nil_append, List.append_nil] at hh)
  refine wl (wl_val hl rfl trivial (r_assign hl rfl) ?_)
  clear hl a; intro a hl
  refine w_nil ?_
  have hl2 := hl.add (t := 0) (hl.add (t := 1) (hl.add (t := 2) (hl.add (t := 7) (hl.add (t := 8) (hl.nil) rfl) rfl) rfl) rfl) rfl; clear hl; have hl := hl2; clear hl2
  refine then_normal ?_
  refine c_seq ?_
  refine c_seq ?_
  refine c_region ?_
  refine wl (wl_val hl rfl trivial (r_move hl rfl) ?_)
  clear hl a; intro a hl
  refine wl (wl_val hl rfl trivial (r_nilCheck hl rfl) ?_)
  clear hl a; intro a hl
  refine wl (wl_val hl rfl trivial (r_field hl rfl fld93_2) ?_)
  clear hl a; intro a hl
  refine wl (w_load hl hh rfl trivial one77 rfl (by repeat (first | exact find_head | apply find_tail)) (by first | rfl) ?_)
  clear hl a; intro a hl
  refine wl (wl_val hl rfl trivial (r_eql_pointer hl rfl rfl ptr77) ?_)
  clear hl a; intro a hl
  refine wl (wl_val hl rfl trivial (r_move hl rfl) ?_)
  clear hl a; intro a hl
  refine sl_split (t := 21) hl rfl ?_ ?_
  · intro hg1; clear hl; intro hl
    try simp only [decide_eq_true_eq, decide_eq_false_iff_not, Bool.not_eq_true', Bool.not_eq_false', Bool.not_eq_true, Bool.not_eq_false, Bool.and_eq_true, Bool.or_eq_true, Bool.and_eq_false_iff, Bool.or_eq_false_iff, Bool.not_not, ne_eq, Int.not_lt, Int.not_le, Decidable.not_not, beq_iff_eq, bne_iff_ne, Option.isNone_iff_eq_none, Option.isNone_eq_false_iff, Option.isSome_iff_ne_none] at hg1
    refine wl (wl_val hl rfl ⟨_, _, rfl, rfl, rfl⟩ (r_move hl rfl) ?_)
    clear hl a; intro a hl
    refine wl (wl_val hl rfl ⟨_, _, rfl, rfl, rfl⟩ (r_move hl rfl) ?_)
    clear hl a; intro a hl
    refine wl (wl_val hl rfl ⟨_, _, rfl, rfl, rfl⟩ (r_neq_string hl rfl rfl) ?_)
    clear hl a; intro a hl
    refine wl (wl_val hl rfl trivial (r_pickT hl rfl rfl) ?_)
    clear hl a; intro a hl
    refine wl (wl_val hl rfl trivial (r_move hl rfl) ?_)
    clear hl a; intro a hl
    refine sl_split (t := 26) hl rfl ?_ ?_
    · intro hg2; clear hl; intro hl
      try simp only [decide_eq_true_eq, decide_eq_false_iff_not, Bool.not_eq_true', Bool.not_eq_false', Bool.not_eq_true, Bool.not_eq_false, Bool.and_eq_true, Bool.or_eq_true, Bool.and_eq_false_iff, Bool.or_eq_false_iff, Bool.not_not, ne_eq, Int.not_lt, Int.not_le, Decidable.not_not, beq_iff_eq, bne_iff_ne, Option.isNone_iff_eq_none, Option.isNone_eq_false_iff, Option.isSome_iff_ne_none] at hg2
      refine wl (wl_val hl rfl ⟨_, _, rfl, rfl, rfl⟩ (r_move hl rfl) ?_)
      clear hl a; intro a hl
      refine wl (wl_val hl rfl ⟨_, _, rfl, rfl, rfl⟩ (r_move hl rfl) ?_)
      clear hl a; intro a hl
      refine wl (wl_val hl rfl ⟨_, _, rfl, rfl, rfl⟩ (r_neq_string hl rfl rfl) ?_)
      clear hl a; intro a hl
      refine wl (wl_val hl rfl trivial (r_pickT hl rfl rfl) ?_)
      clear hl a; intro a hl
      refine w_nil ?_
      have hl2 := hl.add (t := 0) (hl.add (t := 1) (hl.add (t := 7) (hl.add (t := 8) (hl.add (t := 30) (hl.nil) rfl) rfl) rfl) rfl) rfl; clear hl; have hl := hl2; clear hl2
      refine then_normal ?_
      refine c_cond hl rfl ?_ ?_
      · intro hc0
        try simp only [decide_eq_true_eq, decide_eq_false_iff_not, Bool.not_eq_true', Bool.not_eq_false', Bool.not_eq_true, Bool.not_eq_false, Bool.and_eq_true, Bool.or_eq_true, Bool.and_eq_false_iff, Bool.or_eq_false_iff, Bool.not_not, ne_eq, Int.not_lt, Int.not_le, Decidable.not_not, beq_iff_eq, bne_iff_ne, Option.isNone_iff_eq_none, Option.isNone_eq_false_iff, Option.isSome_iff_ne_none] at hc0
        have hk := kwZ_f (s1 := s1) (s2 := s2) (hz1.good (by assumption)) (by assumption) (by assumption)
        skip
        refine c_region ?_
        refine wl (wl_val hl rfl trivial (r_move hl rfl) ?_)
        clear hl a; intro a hl
        refine wl (wl_val hl rfl trivial (r_move hl rfl) ?_)
        clear hl a; intro a hl
        refine wl (w_call hl hh rfl trivial rfl cal39 rfl (failF b sv src Sc hS (wordZ src.length z).2 p1 X1 hz1 ho1 _ _) (by repeat (first | exact keeps_nil | apply keeps_cons (by repeat (first | exact find_head | apply find_tail)) (by first  | rfl) | exact keeps_self | apply keeps_mv)) trivial ?_)
        clear hl hh a w; intro vc Fc a w hR hl hh
        obtain ⟨rfl, p2, X2, rfl, hz2, ho2⟩ := hR
        try simp only [List.cons_append, List.nil_append] at hh
        (try replace hh := has_tail1 hh); (try simp only [List.cons_append, List.nil_append, List.append_nil] at hh)
        refine w_nil ?_
        have hl2 := hl.add (t := 1) (hl.add (t := 8) (hl.nil) rfl) rfl; clear hl; have hl := hl2; clear hl2
        refine then_normal ?_
        refine c_seq ?_
        refine c_region ?_
        refine wl (wl_val hl rfl trivial (r_move hl rfl) ?_)
        clear hl a; intro a hl
        refine wl (wl_val hl rfl trivial (r_move hl rfl) ?_)
        clear hl a; intro a hl
        refine wl (wl_val hl rfl trivial (r_eql_string hl rfl rfl) ?_)
        clear hl a; intro a hl
        refine wl (wl_val hl rfl trivial (r_assign hl rfl) ?_)
        clear hl a; intro a hl
        refine w_nil ?_
        have hl2 := hl.add (t := 6) (hl.nil) rfl; clear hl; have hl := hl2; clear hl2
        refine then_normal ?_
        refine wp_ret ?_
        first
        | (rw [← hk] at hh hz2 ho2; refine f_ret1 (F' := (b, C ((kwZ src.length z s1 s2).2.cells src.length sv p2) 93) :: X2) hl hh rfl rfl (by repeat (first | exact keeps_nil | apply keeps_cons (by repeat (first | exact find_head | apply find_tail)) (by first  | rfl) | exact keeps_self | apply keeps_mv)) ?_; exact ⟨rfl, p2, X2, rfl, hz2, ho2⟩)
        | (rw [← hk] at hh hz1 ho1; refine f_ret1 (F' := (b, C ((kwZ src.length z s1 s2).2.cells src.length sv p1) 93) :: X1) hl hh rfl rfl (by repeat (first | exact keeps_nil | apply keeps_cons (by repeat (first | exact find_head | apply find_tail)) (by first  | rfl) | exact keeps_self | apply keeps_mv)) ?_; exact ⟨rfl, p1, X1, rfl, hz1, ho1⟩)
      · intro hc0
        try simp only [decide_eq_true_eq, decide_eq_false_iff_not, Bool.not_eq_true', Bool.not_eq_false', Bool.not_eq_true, Bool.not_eq_false, Bool.and_eq_true, Bool.or_eq_true, Bool.and_eq_false_iff, Bool.or_eq_false_iff, Bool.not_not, ne_eq, Int.not_lt, Int.not_le, Decidable.not_not, beq_iff_eq, bne_iff_ne, Option.isNone_iff_eq_none, Option.isNone_eq_false_iff, Option.isSome_iff_ne_none] at hc0
        have hk : (kwZ src.length z s1 s2).2 = (wordZ src.length z).2 := kwZ_e (by first | exact .inl (hz1.bad (by assumption)) | exact .inr (.inl (by assumption)) | exact .inr (.inr (by assumption)))
        refine wp_skip ?_
        refine then_normal ?_
        refine c_seq ?_
        refine c_region ?_
        refine wl (wl_val hl rfl trivial (r_move hl rfl) ?_)
        clear hl a; intro a hl
        refine wl (wl_val hl rfl trivial (r_move hl rfl) ?_)
        clear hl a; intro a hl
        refine wl (wl_val hl rfl trivial (r_eql_string hl rfl rfl) ?_)
        clear hl a; intro a hl
        refine wl (wl_val hl rfl trivial (r_assign hl rfl) ?_)
        clear hl a; intro a hl
        refine w_nil ?_
        have hl2 := hl.add (t := 6) (hl.nil) rfl; clear hl; have hl := hl2; clear hl2
        refine then_normal ?_
        refine wp_ret ?_
        first
        | (rw [← hk] at hh hz2 ho2; refine f_ret1 (F' := (b, C ((kwZ src.length z s1 s2).2.cells src.length sv p2) 93) :: X2) hl hh rfl rfl (by repeat (first | exact keeps_nil | apply keeps_cons (by repeat (first | exact find_head | apply find_tail)) (by first  | rfl) | exact keeps_self | apply keeps_mv)) ?_; exact ⟨rfl, p2, X2, rfl, hz2, ho2⟩)
        | (rw [← hk] at hh hz1 ho1; refine f_ret1 (F' := (b, C ((kwZ src.length z s1 s2).2.cells src.length sv p1) 93) :: X1) hl hh rfl rfl (by repeat (first | exact keeps_nil | apply keeps_cons (by repeat (first | exact find_head | apply find_tail)) (by first  | rfl) | exact keeps_self | apply keeps_mv)) ?_; exact ⟨rfl, p1, X1, rfl, hz1, ho1⟩)
    · intro hg2; clear hl; intro hl
      try simp only [decide_eq_true_eq, decide_eq_false_iff_not, Bool.not_eq_true', Bool.not_eq_false', Bool.not_eq_true, Bool.not_eq_false, Bool.and_eq_true, Bool.or_eq_true, Bool.and_eq_false_iff, Bool.or_eq_false_iff, Bool.not_not, ne_eq, Int.not_lt, Int.not_le, Decidable.not_not, beq_iff_eq, bne_iff_ne, Option.isNone_iff_eq_none, Option.isNone_eq_false_iff, Option.isSome_iff_ne_none] at hg2
      refine wl (wl_skip hl rfl ⟨_, _, rfl, rfl, rfl⟩ ?_)
      clear hl a; intro a hl
      refine wl (wl_skip hl rfl ⟨_, _, rfl, rfl, rfl⟩ ?_)
      clear hl a; intro a hl
      refine wl (wl_skip hl rfl ⟨_, _, rfl, rfl, rfl⟩ ?_)
      clear hl a; intro a hl
      refine wl (wl_val hl rfl trivial (r_pickF hl rfl rfl) ?_)
      clear hl a; intro a hl
      refine w_nil ?_
      have hl2 := hl.add (t := 0) (hl.add (t := 1) (hl.add (t := 7) (hl.add (t := 8) (hl.add (t := 30) (hl.nil) rfl) rfl) rfl) rfl) rfl; clear hl; have hl := hl2; clear hl2
      refine then_normal ?_
      refine c_condF hl rfl ?_
      have hk : (kwZ src.length z s1 s2).2 = (wordZ src.length z).2 := kwZ_e (by first | exact .inl (hz1.bad (by assumption)) | exact .inr (.inl (by assumption)) | exact .inr (.inr (by assumption)))
      refine wp_skip ?_
      refine then_normal ?_
      refine c_seq ?_
      refine c_region ?_
      refine wl (wl_val hl rfl trivial (r_move hl rfl) ?_)
      clear hl a; intro a hl
      refine wl (wl_val hl rfl trivial (r_move hl rfl) ?_)
      clear hl a; intro a hl
      refine wl (wl_val hl rfl trivial (r_eql_string hl rfl rfl) ?_)
      clear hl a; intro a hl
      refine wl (wl_val hl rfl trivial (r_assign hl rfl) ?_)
      clear hl a; intro a hl
      refine w_nil ?_
      have hl2 := hl.add (t := 6) (hl.nil) rfl; clear hl; have hl := hl2; clear hl2
      refine then_normal ?_
      refine wp_ret ?_
      first
      | (rw [← hk] at hh hz2 ho2; refine f_ret1 (F' := (b, C ((kwZ src.length z s1 s2).2.cells src.length sv p2) 93) :: X2) hl hh rfl rfl (by repeat (first | exact keeps_nil | apply keeps_cons (by repeat (first | exact find_head | apply find_tail)) (by first  | rfl) | exact keeps_self | apply keeps_mv)) ?_; exact ⟨rfl, p2, X2, rfl, hz2, ho2⟩)
      | (rw [← hk] at hh hz1 ho1; refine f_ret1 (F' := (b, C ((kwZ src.length z s1 s2).2.cells src.length sv p1) 93) :: X1) hl hh rfl rfl (by repeat (first | exact keeps_nil | apply keeps_cons (by repeat (first | exact find_head | apply find_tail)) (by first  | rfl) | exact keeps_self | apply keeps_mv)) ?_; exact ⟨rfl, p1, X1, rfl, hz1, ho1⟩)
  · intro hg1; clear hl; intro hl
    try simp only [decide_eq_true_eq, decide_eq_false_iff_not, Bool.not_eq_true', Bool.not_eq_false', Bool.not_eq_true, Bool.not_eq_false, Bool.and_eq_true, Bool.or_eq_true, Bool.and_eq_false_iff, Bool.or_eq_false_iff, Bool.not_not, ne_eq, Int.not_lt, Int.not_le, Decidable.not_not, beq_iff_eq, bne_iff_ne, Option.isNone_iff_eq_none, Option.isNone_eq_false_iff, Option.isSome_iff_ne_none] at hg1
    refine wl (wl_skip hl rfl ⟨_, _, rfl, rfl, rfl⟩ ?_)
    clear hl a; intro a hl
    refine wl (wl_skip hl rfl ⟨_, _, rfl, rfl, rfl⟩ ?_)
    clear hl a; intro a hl
    refine wl (wl_skip hl rfl ⟨_, _, rfl, rfl, rfl⟩ ?_)
    clear hl a; intro a hl
    refine wl (wl_val hl rfl trivial (r_pickF hl rfl rfl) ?_)
    clear hl a; intro a hl
    refine wl (wl_val hl rfl trivial (r_move hl rfl) ?_)
    clear hl a; intro a hl
    refine wl (wl_skip hl rfl ⟨_, _, rfl, rfl, rfl⟩ ?_)
    clear hl a; intro a hl
    refine wl (wl_skip hl rfl ⟨_, _, rfl, rfl, rfl⟩ ?_)
    clear hl a; intro a hl
    refine wl (wl_skip hl rfl ⟨_, _, rfl, rfl, rfl⟩ ?_)
    clear hl a; intro a hl
    refine wl (wl_val hl rfl trivial (r_pickF hl rfl rfl) ?_)
    clear hl a; intro a hl
    refine w_nil ?_
    have hl2 := hl.add (t := 0) (hl.add (t := 1) (hl.add (t := 7) (hl.add (t := 8) (hl.add (t := 30) (hl.nil) rfl) rfl) rfl) rfl) rfl; clear hl; have hl := hl2; clear hl2
    refine then_normal ?_
    refine c_condF hl rfl ?_
    have hk : (kwZ src.length z s1 s2).2 = (wordZ src.length z).2 := kwZ_e (by first | exact .inl (hz1.bad (by assumption)) | exact .inr (.inl (by assumption)) | exact .inr (.inr (by assumption)))
    refine wp_skip ?_
    refine then_normal ?_
    refine c_seq ?_
    refine c_region ?_
    refine wl (wl_val hl rfl trivial (r_move hl rfl) ?_)
    clear hl a; intro a hl
    refine wl (wl_val hl rfl trivial (r_move hl rfl) ?_)
    clear hl a; intro a hl
    refine wl (wl_val hl rfl trivial (r_eql_string hl rfl rfl) ?_)
    clear hl a; intro a hl
    refine wl (wl_val hl rfl trivial (r_assign hl rfl) ?_)
    clear hl a; intro a hl
    refine w_nil ?_
    have hl2 := hl.add (t := 6) (hl.nil) rfl; clear hl; have hl := hl2; clear hl2
    refine then_normal ?_
    refine wp_ret ?_
    first
    | (rw [← hk] at hh hz2 ho2; refine f_ret1 (F' := (b, C ((kwZ src.length z s1 s2).2.cells src.length sv p2) 93) :: X2) hl hh rfl rfl (by repeat (first | exact keeps_nil | apply keeps_cons (by repeat (first | exact find_head | apply find_tail)) (by first  | rfl) | exact keeps_self | apply keeps_mv)) ?_; exact ⟨rfl, p2, X2, rfl, hz2, ho2⟩)
    | (rw [← hk] at hh hz1 ho1; refine f_ret1 (F' := (b, C ((kwZ src.length z s1 s2).2.cells src.length sv p1) 93) :: X1) hl hh rfl rfl (by repeat (first | exact keeps_nil | apply keeps_cons (by repeat (first | exact find_head | apply find_tail)) (by first  | rfl) | exact keeps_self | apply keeps_mv)) ?_; exact ⟨rfl, p1, X1, rfl, hz1, ho1⟩)

set_option maxHeartbeats 1000000 in
theorem expectF (b : Nat) (sv : Value) (src : List Int) (Sc : List (Nat × Obj)) (hS : SrcL sv src Sc) (z : ZS) (p : Option Addr) (X : List (Nat × Obj)) (hz : ZX Sc z p X) (ho : ZO src z) (s1 : ByteArray) : Sp Try.prog 36 #[.pointer (some ⟨b, 0, none⟩), .string s1] ((b, C (z.cells src.length sv p) 93) :: X) (fun v F' => v = .tuple #[] ∧ PZ b sv src Sc ((kwZ src.length z s1 s1).2) F') := by
  refine f_enter (args := [.pointer (some ⟨b, 0, none⟩), .string s1]) Try.func36 rfl Try.ntmps36 rfl ?_
  intro w0 w a hpre hl hh
  simp only [slotsFrom, Nat.reduceAdd] at hl
  refine c_region ?_
  refine wl (wl_val hl rfl trivial (r_move hl rfl) ?_)
  clear hl a; intro a hl
  refine wl (wl_val hl rfl trivial (r_move hl rfl) ?_)
  clear hl a; intro a hl
  refine wl (wl_val hl rfl trivial (r_move hl rfl) ?_)
  clear hl a; intro a hl
  refine wl (w_call hl hh rfl trivial rfl cal53 rfl (keywordF b sv src Sc hS z p X hz ho s1 s1) (by repeat (first | exact keeps_nil | apply keeps_cons (by repeat (first | exact find_head | apply find_tail)) (by first  | rfl) | exact keeps_self | apply keeps_mv)) trivial ?_)
  clear hl hh a w; intro vc Fc a w hR hl hh
  obtain ⟨rfl, p1, X1, rfl, hz1, ho1⟩ := hR
  try simp only [List.cons_append, List.nil_append] at hh
  (try replace hh := has_tail1 hh); (try simp only [List.cons_append, List.nil_append, List.append_nil] at hh)
  refine w_nil ?_
  have hl2 := hl.nil; clear hl; have hl := hl2; clear hl2
  refine f_end0 (F' := (b, C ((kwZ src.length z s1 s1).2.cells src.length sv p1) 93) :: X1) hl hh rfl (by repeat (first | exact keeps_nil | apply keeps_cons (by repeat (first | exact find_head | apply find_tail)) (by first  | rfl) | exact keeps_self | apply keeps_mv)) ?_
  exact ⟨rfl, p1, X1, rfl, hz1, ho1⟩
end Go.Proofs.Qxb6500907a

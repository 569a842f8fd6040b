import Derived.Test.Qxb6500914aGreatH8
import Derived.MapKept
namespace Go.Proofs.Qxb6500914aGreat
open Go.Eng
set_option linter.unusedVariables false
set_option linter.unusedSimpArgs false
theorem cal28 : callable Tryz.prog 28 = true := by kernel_rfl
theorem fld47_1 : fieldOk Tryz.prog 47 1 6 = true := by kernel_rfl
theorem one45 : oneOk Tryz.prog 45 = true := by kernel_rfl
theorem zero4 : zeroOk Tryz.prog 4 (.bool false) := by unfold zeroOk; kernel_rfl
theorem zero97 : zeroOk Tryz.prog 97 (.slice none 0 0) := by unfold zeroOk; kernel_rfl
theorem fld95_3 : fieldOk Tryz.prog 95 3 7 = true := by kernel_rfl
theorem app97 : appOk Tryz.prog 97 3 1 8 = true := by kernel_rfl
theorem zero3 : zeroOk Tryz.prog 3 (.int .i64 0) := by unfold zeroOk; kernel_rfl
theorem conc97 : concT Tryz.prog 97 = true := by kernel_rfl
theorem agg95 : aggOk Tryz.prog 95 9 = true := by kernel_rfl
theorem fld95_0 : fieldOk Tryz.prog 95 0 0 = true := by kernel_rfl
theorem cal31 : callable Tryz.prog 31 = true := by kernel_rfl
theorem shp39 : shapeT Tryz.prog 8 39 = some [.int .u8, .int .u64, .int .u64] := by kernel_rfl
theorem eqf39 : eqOk Tryz.prog 8 39 = true := by kernel_rfl
theorem zero49 : zeroOk Tryz.prog 49 (.agg #[(.int .i64 0), (.int .i64 0), (.int .i64 0), (.int .i64 0), (.int .i64 0), (.int .i64 0)]) := by unfold zeroOk; kernel_rfl
theorem cal15 : callable Tryz.prog 15 = true := by kernel_rfl
/-! ## the search, plainly -/
def feF (H : Nat → List Rec) (d : Nat → Nat) : Nat → Nat
  | 0 => never
  | i + 1 => match (H i)[d i]? with
    | none => feF H d i
    | some r => if r.fn < feF H d i then r.fn else feF H d i
theorem feF_some {H : Nat → List Rec} {d : Nat → Nat} {i : Nat} {r : Rec} (h : (H i)[d i]? = some r) : feF H d (i + 1) = if r.fn < feF H d i then r.fn else feF H d i := by rw [feF, h]
theorem feF_none {H : Nat → List Rec} {d : Nat → Nat} {i : Nat} (h : ¬ d i < (H i).length) : feF H d (i + 1) = feF H d i := by rw [feF, List.getElem?_eq_none (by omega)]
theorem feF_le {H : Nat → List Rec} {d : Nat → Nat} : ∀ (i : Nat), feF H d i ≤ never
  | 0 => Nat.le_refl _
  | i + 1 => by
    have := feF_le (H := H) (d := d) i
    rw [feF]
    split
    · exact this
    · split <;> omega
theorem feF_ge {H : Nat → List Rec} {d : Nat → Nat} {x : Nat} (hx : x ≤ never) : ∀ (i : Nat), (∀ t r, t < i → (H t)[d t]? = some r → x ≤ r.fn) → x ≤ feF H d i
  | 0, _ => hx
  | i + 1, h => by
    have ih := feF_ge (H := H) (d := d) hx i (fun t r ht hr => h t r (by omega) hr)
    rw [feF]
    split
    · exact ih
    · rename_i r hr
      have := h i r (by omega) hr
      split <;> omega
def candB (H : Nat → List Rec) (d : Nat → Nat) (t : Nat) : Bool := match (H t)[d t]? with
  | none => false
  | some r => decide (r.iv ≤ feF H d 6)
theorem cand_lt {H : Nat → List Rec} {d : Nat → Nat} {t : Nat} (h : candB H d t = true) : d t < (H t).length := by
  refine Nat.lt_of_not_le fun q => ?_
  unfold candB at h
  rw [List.getElem?_eq_none q] at h
  cases h
def Bad (k : Bool) (H : Nat → List Rec) (d : Nat → Nat) (A : List (Int × Int)) (t : Nat) : Prop := ∀ r, (H t)[d t]? = some r → (r.ret = true ∧ (stA k A r.ck r.cv r.cp).2 ≠ ⟨r.ra, r.rv, r.rp⟩) ∨ ¬ Cmp k H (incF d t) (stA k A r.ck r.cv r.cp).1
theorem not_cmp {k : Bool} {H : Nat → List Rec} {d : Nat → Nat} {A : List (Int × Int)} (hf : feF H d 6 ≠ never) (hiv : ∀ t r, t < 6 → r ∈ H t → r.iv ≤ never) (hb : ∀ t, t < 6 → candB H d t = true → Bad k H d A t) : ¬ Cmp k H d A := by
  intro h
  cases h with
  | fin _ _ h =>
    have := feF_ge (x := never) (H := H) (d := d) (Nat.le_refl _) 6 (fun t r ht hr => by rw [h t r ht hr]; exact Nat.le_refl _)
    have := feF_le (H := H) (d := d) 6
    omega
  | step _ _ t r ht hr hc hs hn =>
    have hcb : candB H d t = true := by
      unfold candB
      rw [hr]
      exact decide_eq_true (feF_ge (hiv t r ht (List.mem_of_getElem? hr)) 6 hc)
    rcases hb t ht hcb r hr with ⟨q1, q2⟩ | q
    · exact q2 (hs q1)
    · exact q hn
theorem Cmp.congr {k : Bool} {H : Nat → List Rec} {d : Nat → Nat} {A : List (Int × Int)} (h : Cmp k H d A) : ∀ d', (∀ t, t < 6 → d t = d' t) → Cmp k H d' A := by
  induction h with
  | fin d A h => exact fun d' e => .fin d' A fun t r ht hr => h t r ht (by rw [e t ht]; exact hr)
  | step d A t r ht hr hc hs hn ih =>
    intro d' e
    refine .step d' A t r ht (by rw [← e t ht]; exact hr) (fun t' r' ht' hr' => hc t' r' ht' (by rw [e t' ht']; exact hr')) hs (ih _ fun s hs9 => ?_)
    unfold incF updF
    by_cases q : s = t
    · rw [if_pos q, if_pos q, e t ht]
    · rw [if_neg q, if_neg q, e s hs9]
theorem byt_beq (a b : ByteArray) : (a == b) = decide (a = b) := by
  by_cases e : a = b
  · rw [decide_eq_true e]; exact (Go.MapKept.bytes_beq a b).2 e
  · rw [decide_eq_false e]
    cases hq : a == b with
    | false => rfl
    | true => exact absurd ((Go.MapKept.bytes_beq a b).1 hq) e
def kStr (s : ByteArray) : Value := .string s
theorem keyStr {P : Program} {kt : TypeId} (h : P.underlying kt = some .string) : KeyOk P kt kStr := by
  refine KeyOk.now ⟨_, h, fun a b => ?_, fun _ e => ?_, fun _ _ e => ?_, fun _ e => ?_⟩ (fun a => ?_)
  · simp only [kStr, Instr.sameNow]
    exact congrArg some (byt_beq a b)
  · cases e
  · cases e
  · cases e
  · simp [kStr, Instr.sameBits, byt_beq]
def FailOk (k : Bool) (H : Nat → List Rec) (l : List (ByteArray × Value)) : Prop := ∀ key v, mget l key = some v → v = .bool true ∧ ∃ d A, SOk k d A ∧ key = kyS k d A ∧ ¬ Cmp k H d A
theorem fail_get {k : Bool} {H : Nat → List Rec} {l : List (ByteArray × Value)} (h : FailOk k H l) {d : Nat → Nat} {A : List (Int × Int)} (ho : SOk k d A) : ∃ b, (mget l (kyS k d A)).getD (.bool false) = .bool b ∧ (b = true → ¬ Cmp k H d A) := by
  cases hq : mget l (kyS k d A) with
  | none => exact ⟨false, rfl, fun q => by cases q⟩
  | some v =>
    obtain ⟨rfl, d', A', ho', e, hn⟩ := h _ v hq
    refine ⟨true, rfl, fun _ hc => ?_⟩
    obtain ⟨e1, rfl⟩ := kyS_inj ho ho' e
    exact hn (hc.congr d' e1)
theorem fail_put {k : Bool} {H : Nat → List Rec} {l : List (ByteArray × Value)} (h : FailOk k H l) {d : Nat → Nat} {A : List (Int × Int)} (ho : SOk k d A) (hn : ¬ Cmp k H d A) : FailOk k H (mput l (kyS k d A) (.bool true)) := by
  intro key v hv
  rw [mget_mput] at hv
  split at hv
  · rename_i e
    injection hv with hv
    exact ⟨hv.symm, d, A, ho, e, hn⟩
  · exact h key v hv
def mu (H : Nat → List Rec) (d : Nat → Nat) : Nat := ((List.range 6).map (fun t => (H t).length - d t)).sum
theorem mu_inc {H : Nat → List Rec} {d : Nat → Nat} {t : Nat} (ht : t < 6) (hl : d t < (H t).length) : mu H (incF d t) + 1 = mu H d := by
  have h := sum_one (fun s => (H s).length - d s) t ((H t).length - (d t + 1)) ht
  have e : (fun s => (H s).length - incF d t s) = fun s => if s = t then (H t).length - (d t + 1) else (H s).length - d s := funext fun s => by
    unfold incF updF
    by_cases q : s = t
    · subst q; rw [if_pos rfl, if_pos rfl]
    · rw [if_neg q, if_neg q]
  unfold mu
  rw [e]
  omega
theorem StR.three {k : Bool} {N : Nat} {A : List (Int × Int)} {v : Value} {Z : List (Nat × Obj)} (h : StR k N A v Z) : ∃ x1 x2 x3, v = .agg ⟨[x1, x2, x3]⟩ ∧ ([x1, x2, x3] : List Value).all (·.oneCell') = true := by
  cases h with
  | dq N A Z dv hz ho hv => exact ⟨_, _, _, rfl, one_dq hv.one⟩
  | bf N A Z bv es ar hb ho hv => exact ⟨_, _, _, rfl, one_bf hv.one⟩
def FromSpec (k : Bool) (H : Nat → List Rec) (sv : Nat → Value) (ES : Nat → List (Nat × Obj)) (sb mb n : Nat) : Prop :=
  ∀ (d : Nat → Nat) (N : Nat) (A : List (Int × Int)) (v : Value) (Z : List (Nat × Obj)) (l : List (ByteArray × Value)), mu H d = n → N + mu H d ≤ 1000200 → (∀ t, t < 6 → d t ≤ N) → StR k N A v Z → FailOk k H l → (∀ x, x ∈ Z → x.1 ≠ mb) →
    SpK Tryz.prog 15 #[.pointer (some ⟨sb, 0, none⟩), .agg ⟨arrL 6 (fun t => .int .i64 ((d t : Nat) : Int))⟩, v] (fun w => SPre sb sv (.map (some mb)) ES w ∧ Mem Z w) [(mb, MO kStr l)] (fun u F' => ∃ b l', u = .bool b ∧ (b = false → ¬ Cmp k H d A) ∧ FailOk k H l' ∧ F' = [(mb, MO kStr l')])
structure TSt where
  i : Nat
  ts : List Nat
  tv : Value
  E : List (Nat × Obj)
structure LSt where
  i : Nat
  l : List (ByteArray × Value)
theorem svAt {sv : Nat → Value} {mv v : Value} {t : Nat} (ht : t < 6) (e : sv t = v) : (arrL 6 sv ++ [mv])[0 + 0 + t * 1]? = some v := by
  rw [List.getElem?_append_left (by rw [arrL_length]; omega), show 0 + 0 + t * 1 = t by omega, arrL_get ht, e]
theorem mvAt (sv : Nat → Value) (mv : Value) : (arrL 6 sv ++ [mv])[0 + 6]? = some mv := by
  rw [List.getElem?_append_right (by rw [arrL_length]; omega), arrL_length]; rfl
theorem dAt (d : Nat → Nat) {t : Nat} (ht : t < 6) : (arrL 6 (fun t => Value.int .i64 ((d t : Nat) : Int)))[0 + t * 1]? = some (.int .i64 ((d t : Nat) : Int)) := by
  rw [show 0 + t * 1 = t by omega, arrL_get ht]
theorem min_cast (a b : Nat) : (if ((a : Nat) : Int) < ((b : Nat) : Int) then ((a : Nat) : Int) else ((b : Nat) : Int)) = (((if a < b then a else b) : Nat) : Int) := by
  by_cases h : a < b
  · rw [if_pos (by omega), if_pos h]
  · rw [if_neg (by omega), if_neg h]
theorem done_inc (d : Nat → Nat) (t : Nat) : arrL 6 (updV (fun s => Value.int .i64 ((d s : Nat) : Int)) t (.int .i64 (((d t : Nat) : Int) + 1))) = arrL 6 (fun s => .int .i64 ((incF d t s : Nat) : Int)) := by
  refine arrL_congr fun s hs => ?_
  unfold updV incF updF
  by_cases q : s = t
  · rw [if_pos q, if_pos q]; exact congrArg (Value.int .i64) (i_succ (d t))
  · rw [if_neg q, if_neg q]
theorem has_tailA {D : List Nat} {w0 w : World} {A E R : List (Nat × Obj)} (h : Has D w0 (A ++ (E ++ R)) w) : Has D w0 (A ++ (R ++ E)) w := h.perm (List.Perm.append_left A List.perm_append_comm)
theorem filt_succ (p : Nat → Bool) (i : Nat) : (List.range (i + 1)).filter p = if p i = true then (List.range i).filter p ++ [i] else (List.range i).filter p := by
  rw [List.range_succ, List.filter_append]
  by_cases h : p i = true
  · rw [if_pos h]; simp [h]
  · rw [if_neg h]; simp [h]
theorem sortT_row2 {H : Nat → List Rec} {d : Nat → Nat} {sv : Nat → Value} {ES : Nat → List (Nat × Obj)} {mv : Value} (hHR : HR sv H ES) (ts : List Nat) (hts : ∀ t ∈ ts, t < 6 ∧ d t < (H t).length) (h12 : ts.length ≤ 12) (tv : Value) (E : List (Nat × Obj)) (hR : Row tv ts.length (fl tc ts) 1 3 E) (k3 k4 k11 sb : Nat) :
    SpK Tryz.prog 29 #[.iface 97 tv, .func (.func 30) #[] #[.pointer (some ⟨k3, 0, none⟩), .pointer (some ⟨k11, 0, none⟩), .pointer (some ⟨k4, 0, none⟩)]] (SPre sb sv mv ES) ((k11, C [tv] 97) :: (k3, C [.pointer (some ⟨sb, 0, none⟩)] 93) :: (k4, C (arrL 6 (fun t => .int .i64 ((d t : Nat) : Int))) 49) :: E)
      (fun u F' => u = .tuple #[] ∧ ∃ ts' E', ts'.Perm ts ∧ Row tv ts'.length (fl tc ts') 1 3 E' ∧ F' = (k11, C [tv] 97) :: (k3, C [.pointer (some ⟨sb, 0, none⟩)] 93) :: (k4, C (arrL 6 (fun t => .int .i64 ((d t : Nat) : Int))) 49) :: E') :=
  sortT_row hHR ts hts h12 tv E hR k3 k4 k11 sb
theorem arrL_one6 (d : Nat → Nat) : (arrL 6 (fun t => Value.int .i64 ((d t : Nat) : Int))).all (·.oneCell') = true := arrL_one fun _ _ => rfl
theorem set6d (d : Nat → Nat) : setL [Value.int .i64 0, .int .i64 0, .int .i64 0, .int .i64 0, .int .i64 0, .int .i64 0] 0 (arrL 6 (fun t => Value.int .i64 ((d t : Nat) : Int))) = arrL 6 (fun t => Value.int .i64 ((d t : Nat) : Int)) := by unfold arrL; rfl
theorem recL_8 (r : Rec) : (recL r)[8]? = some (.int .i64 ((r.fn : Nat) : Int)) := rfl
theorem recL_7 (r : Rec) : (recL r)[7]? = some (.int .i64 ((r.iv : Nat) : Int)) := rfl
theorem rowT0 : Row (.slice none 0 0) ([] : List Nat).length (fl tc []) 1 3 [] := Row.nil _ _
theorem rowT1 {ts : List Nat} {i : Nat} {v : Value} {E : List (Nat × Obj)} (h : Row v (ts.length + 1) (fl tc ts ++ [.int .i64 (i : Int)]) 1 3 E) : Row v (ts ++ [i]).length (fl tc (ts ++ [i])) 1 3 E := by
  rw [List.length_append, List.length_singleton, fl_append]; exact h
theorem bad_snoc {k : Bool} {H : Nat → List Rec} {d : Nat → Nat} {A : List (Int × Int)} {ts : List Nat} {i t : Nat} (ht : ts[i]? = some t) (h : ∀ s, s ∈ ts.take i → Bad k H d A s) (hb : Bad k H d A t) : ∀ s, s ∈ ts.take (i + 1) → Bad k H d A s := by
  intro s hs
  rw [List.take_add_one, ht] at hs
  rcases List.mem_append.1 hs with q | q
  · exact h s q
  · have : s = t := by simpa using q
    rw [this]; exact hb
theorem zf_mem {Z F : List (Nat × Obj)} {w : World} (h1 : Mem Z w) (h2 : Mem F w) : Mem (Z ++ F) w := fun b o m => by
  rcases List.mem_append.1 m with q | q
  · exact h1 b o q
  · exact h2 b o q
theorem zf_ne {D : List Nat} {w0 w : World} {L Fc G Z : List (Nat × Obj)} {mb : Nat} {o : Obj} (hh : Has D w0 L w) (hk : Keeps L ((mb, o) :: Fc) G) (hz : ∀ x, x ∈ Z → x.1 ≠ mb) : ∀ x, x ∈ Z ++ Fc → x.1 ≠ mb := by
  intro x hx
  rcases List.mem_append.1 hx with q | q
  · exact hz x q
  · have hn := (hh.keep hk).nodup
    rw [List.map_cons, List.nodup_cons] at hn
    exact fun e => hn.1 (by rw [← e]; exact List.mem_map.2 ⟨x, q, rfl⟩)
theorem recL_mk (a b c x y z : Int) (g : Bool) (i j : Nat) : recL ⟨a, b, c, x, y, z, g, i, j⟩ = [.int .u8 a, .int .u64 b, .int .u64 c, .int .u8 x, .int .u64 y, .int .u64 z, .bool g, .int .i64 (i : Int), .int .i64 (j : Int)] := rfl


attribute [local irreducible] fl stA recL kyS

set_option maxHeartbeats 16000000 in
theorem from_walk (k : Bool) (H : Nat → List Rec) (hH : HGood k H) (sv : Nat → Value) (ES : Nat → List (Nat × Obj)) (hHR : HR sv H ES) (sb mb : Nat) (hsbm : sb ≠ mb) (hESm : ∀ t, t < 6 → ∀ x, x ∈ ES t → x.1 ≠ mb) (n : Nat) (ih : ∀ m, m < n → FromSpec k H sv ES sb mb m) (d : Nat → Nat) (N : Nat) (A : List (Int × Int)) (x1 x2 x3 : Value) (hx1 : ([x1, x2, x3] : List Value).all (·.oneCell') = true) (Z : List (Nat × Obj)) (l0 : List (ByteArray × Value)) (hmu : mu H d = n) (hNm : N + mu H d ≤ 1000200) (hdN : ∀ t, t < 6 → d t ≤ N) (hS : StR k N A (.agg ⟨[x1, x2, x3]⟩) Z) (hF0 : FailOk k H l0) (hZm : ∀ x, x ∈ Z → x.1 ≠ mb) : SpK Tryz.prog 15 #[.pointer (some ⟨sb, 0, none⟩), .agg ⟨arrL 6 (fun t => .int .i64 ((d t : Nat) : Int))⟩, .agg ⟨[x1, x2, x3]⟩] (fun w => SPre sb sv (.map (some mb)) ES w ∧ Mem Z w) [(mb, MO kStr l0)] (fun u F' => ∃ b l', u = .bool b ∧ (b = false → ¬ Cmp k H d A) ∧ FailOk k H l' ∧ F' = [(mb, MO kStr l')]) := by
  refine f_enter (args := [.pointer (some ⟨sb, 0, none⟩), .agg ⟨arrL 6 (fun t => .int .i64 ((d t : Nat) : Int))⟩, .agg ⟨[x1, x2, x3]⟩]) Tryz.func15 rfl Tryz.ntmps15 rfl ?_
  intro w0 w a hpre hl hh
  obtain ⟨⟨hsb, hES⟩, hZ0⟩ := hpre
  obtain ⟨nH, hnH, hHk⟩ := hH.ok
  have hsbD : sb ∉ List.map Prod.fst [(mb, MO kStr l0)] := by simp; exact hsbm
  have hZD : ∀ x, x ∈ Z → x.1 ∉ List.map Prod.fst [(mb, MO kStr l0)] := fun x hx => by simp; exact hZm x hx
  have hd2 : ∀ t, t < 6 → d t ≤ 2000000 := fun t ht => by have := hdN t ht; omega
  have hSO := hS.ok hd2
  have hs6 := mvAt sv (.map (some mb))
  have hiv : ∀ t r, t < 6 → r ∈ H t → r.iv ≤ never := fun t r _ hr => by have := (hHk.rc t r hr).iv; unfold never; omega
  have hlen6 : ∀ t, t < 6 → (H t).length ≤ 1000100 := fun t ht => Nat.le_trans (hHk.each ht) hnH
  simp only [slotsFrom, Nat.reduceAdd] at hl
  refine c_seq ?_
  refine c_region ?_
  refine wl (w_box hl hh rfl trivial rfl rfl ?_)
  clear hl hh a w; intro k3 a w hl hh
  refine wl (w_box hl hh rfl trivial rfl rfl ?_)
  clear hl hh a w; intro k4 a w hl hh
  refine wl (w_box hl hh rfl trivial rfl rfl ?_)
  clear hl hh a w; intro k5 a w hl hh
  refine wl (wl_val hl rfl trivial (r_assign hl rfl) ?_)
  clear hl a; intro a hl
  refine w_nil ?_
  have hl2 := hl.add (t := 3) (hl.add (t := 4) (hl.add (t := 5) (hl.nil) rfl) rfl) rfl; clear hl; have hl := hl2; clear hl2
  refine then_normal ?_
  refine c_seq ?_
  refine c_region ?_
  refine wl (wl_val hl rfl trivial (r_assign hl rfl) ?_)
  clear hl a; intro a hl
  refine w_nil ?_
  have hl2 := hl.add (t := 3) (hl.add (t := 4) (hl.add (t := 5) (hl.add (t := 7) (hl.nil) rfl) rfl) rfl) rfl; clear hl; have hl := hl2; clear hl2
  refine then_normal ?_
  refine c_seq ?_
  refine c_seq ?_
  refine c_region ?_
  refine wl (w_loadA hl hh rfl trivial agg49 rfl (by repeat (first | exact find_head | apply find_tail)) (by exact take6 _) (by rw [arrL_length]) ?_)
  clear hl a; intro a hl
  refine wl (wl_val hl rfl trivial (r_move hl rfl) ?_)
  clear hl a; intro a hl
  refine w_nil ?_
  have hl2 := hl.add (t := 3) (hl.add (t := 4) (hl.add (t := 5) (hl.add (t := 7) (hl.add (t := 20) (hl.add (t := 21) (hl.nil) rfl) rfl) rfl) rfl) rfl) rfl; clear hl; have hl := hl2; clear hl2
  refine then_normal ?_
  refine wp_block ?_
  obtain ⟨KS0, hKS0, hk⟩ := (hl.add (t := 3) (hl.add (t := 4) (hl.add (t := 5) (hl.add (t := 20) (hl.nil) rfl) rfl) rfl) rfl).name
  obtain ⟨HS0, hHS0, hh2⟩ := hh.name (keeps_nil)
  refine c_loop (α := Nat) (fun i => 6 - i) (fun i a w => (i ≤ 6) ∧ Sl 143 ([(21, .int .i64 (i : Int)), (7, .int .i64 ((feF H d i : Nat) : Int))] ++ KS0) a ∧ Has _ w0 ([] ++ HS0) w) 0 ⟨Nat.zero_le _, hl.addE (t := 21) (hl.addE (t := 7) (hk) rfl (by first | rfl)) rfl (by first | rfl), hh2⟩ ?_
  clear hk hh2 hl hh a w
  intro i a w hI
  obtain ⟨hi, hl, hh⟩ := hI
  subst hKS0; subst hHS0
  simp only [List.cons_append, List.nil_append, List.append_nil] at hl hh
  refine c_seq ?_
  refine c_region ?_
  refine wl (wl_val hl rfl trivial (r_lss hl rfl rfl) ?_)
  clear hl a; intro a hl
  refine w_nil ?_
  have hl2 := hl.add (t := 3) (hl.add (t := 4) (hl.add (t := 5) (hl.add (t := 7) (hl.add (t := 20) (hl.add (t := 21) (hl.add (t := 22) (hl.nil) rfl) rfl) rfl) rfl) rfl) rfl) rfl; clear hl; have hl := hl2; clear hl2
  refine then_normal ?_
  refine c_seq ?_
  refine c_cond hl rfl ?_ ?_
  · intro hc0
    try simp only [decide_eq_true_eq, decide_eq_false_iff_not, Bool.not_eq_true', Bool.not_eq_false', Bool.not_eq_true, Bool.not_eq_false, Bool.and_eq_true, Bool.or_eq_true, Bool.and_eq_false_iff, Bool.or_eq_false_iff, Bool.not_not, ne_eq, Int.not_lt, Int.not_le, Decidable.not_not, beq_iff_eq, bne_iff_ne] at hc0
    have hi6 : i < 6 := by omega
    obtain ⟨p9, c9, hsv9⟩ := row_val (hHR i hi6)
    have hs9 := svAt (mv := .map (some mb)) hi6 hsv9
    refine wp_skip ?_
    refine then_normal ?_
    refine c_seq ?_
    refine wp_block ?_
    refine c_seq ?_
    refine c_region ?_
    refine wl (wl_val hl rfl trivial (r_move hl rfl) ?_)
    clear hl a; intro a hl
    refine wl (wl_val hl rfl trivial (r_indexAgg hl rfl rfl arrT49 one3 (by omega) (by omega) (by first | (simp only [Int.reduceToNat]; rfl) | exact toNat_add1 _ | exact toNat_add2 _ _ | exact toNat_emod _ _ | exact Int.toNat_natCast _ | rfl) (by exact (arrL_get (by omega)))) ?_)
    clear hl a; intro a hl
    rw [Nat.mul_one] at hl
    refine wl (wl_val hl rfl trivial (r_assign hl rfl) ?_)
    clear hl a; intro a hl
    refine wl (wl_val hl rfl trivial (r_assign hl rfl) ?_)
    clear hl a; intro a hl
    refine w_nil ?_
    have hl2 := hl.add (t := 3) (hl.add (t := 4) (hl.add (t := 5) (hl.add (t := 7) (hl.add (t := 8) (hl.add (t := 9) (hl.add (t := 20) (hl.add (t := 21) (hl.nil) rfl) rfl) rfl) rfl) rfl) rfl) rfl) rfl; clear hl; have hl := hl2; clear hl2
    refine then_normal ?_
    refine c_seq ?_
    refine c_region ?_
    refine wl (wl_val hl rfl trivial (r_move hl rfl) ?_)
    clear hl a; intro a hl
    first | refine wl (w_load hl hh rfl trivial one93 rfl (by repeat (first | exact find_head | apply find_tail)) (by first | exact hqt | exact hs9 | exact hd9 | rfl) ?_) | refine wl (w_loadR hl hh rfl trivial one93 rfl hsb hsbD hs9 ?_) | refine wl (w_loadR hl hh rfl trivial one93 rfl hm9 hD9 hr8 ?_) | refine wl (w_loadR hl hh rfl trivial one93 rfl hm9 hD9 hr7 ?_) | refine wl (w_loadR hl hh rfl trivial one93 rfl hsb hsbD hs6 ?_)
    clear hl a; intro a hl
    refine wl (wl_val hl rfl trivial (r_move hl rfl) ?_)
    clear hl a; intro a hl
    refine wl (wl_val hl rfl trivial (r_nilCheck hl rfl) ?_)
    clear hl a; intro a hl
    refine wl (wl_val hl rfl trivial (r_field hl rfl fld47_0) ?_)
    clear hl a; intro a hl
    refine wl (wl_val hl rfl trivial (r_indexA hl rfl rfl arr29 (by omega) (by omega) (by first | (simp only [Int.reduceToNat]; rfl) | exact toNat_add1 _ | exact toNat_add2 _ _ | exact toNat_emod _ _ | exact Int.toNat_natCast _ | rfl)) ?_)
    clear hl a; intro a hl
    first | refine wl (w_load hl hh rfl trivial one27 rfl (by repeat (first | exact find_head | apply find_tail)) (by first | exact hqt | exact hs9 | exact hd9 | rfl) ?_) | refine wl (w_loadR hl hh rfl trivial one27 rfl hsb hsbD hs9 ?_) | refine wl (w_loadR hl hh rfl trivial one27 rfl hm9 hD9 hr8 ?_) | refine wl (w_loadR hl hh rfl trivial one27 rfl hm9 hD9 hr7 ?_) | refine wl (w_loadR hl hh rfl trivial one27 rfl hsb hsbD hs6 ?_)
    clear hl a; intro a hl
    refine wl (wl_val hl rfl trivial (r_lenS hl rfl slc27) ?_)
    clear hl a; intro a hl
    refine wl (wl_val hl rfl trivial (r_lss hl rfl rfl) ?_)
    clear hl a; intro a hl
    refine w_nil ?_
    have hl2 := hl.add (t := 3) (hl.add (t := 4) (hl.add (t := 5) (hl.add (t := 7) (hl.add (t := 8) (hl.add (t := 9) (hl.add (t := 20) (hl.add (t := 21) (hl.add (t := 33) (hl.nil) rfl) rfl) rfl) rfl) rfl) rfl) rfl) rfl) rfl; clear hl; have hl := hl2; clear hl2
    refine then_normal ?_
    refine c_cond hl rfl ?_ ?_
    · intro hc1
      try simp only [decide_eq_true_eq, decide_eq_false_iff_not, Bool.not_eq_true', Bool.not_eq_false', Bool.not_eq_true, Bool.not_eq_false, Bool.and_eq_true, Bool.or_eq_true, Bool.and_eq_false_iff, Bool.or_eq_false_iff, Bool.not_not, ne_eq, Int.not_lt, Int.not_le, Decidable.not_not, beq_iff_eq, bne_iff_ne] at hc1
      obtain ⟨r, hr⟩ : ∃ r, (H i)[d i]? = some r := ⟨_, List.getElem?_eq_getElem (by omega)⟩
      have hrow9 := hHR i hi6
      rw [hsv9] at hrow9
      obtain ⟨b9, junk9, rfl, hj9, hcc9, hE9⟩ := row_pos hrow9 (by omega)
      have hm9 : w0.heap[b9]? = some (C (fl recL (H i) ++ junk9) 95) := hES i hi6 b9 _ (by rw [hE9]; exact List.mem_singleton.2 rfl)
      have hD9 : b9 ∉ List.map Prod.fst [(mb, MO kStr l0)] := by simp; exact hESm i hi6 _ (by rw [hE9]; exact List.mem_singleton.2 rfl)
      have hr8 := fl_cell recL_len hr (recL_8 _) junk9
      have hr7 := fl_cell recL_len hr (recL_7 _) junk9
      have hfe := feF_some hr
      refine c_region ?_
      refine wl (wl_val hl rfl trivial (r_move hl rfl) ?_)
      clear hl a; intro a hl
      first | refine wl (w_load hl hh rfl trivial one93 rfl (by repeat (first | exact find_head | apply find_tail)) (by first | exact hqt | exact hs9 | exact hd9 | rfl) ?_) | refine wl (w_loadR hl hh rfl trivial one93 rfl hsb hsbD hs9 ?_) | refine wl (w_loadR hl hh rfl trivial one93 rfl hm9 hD9 hr8 ?_) | refine wl (w_loadR hl hh rfl trivial one93 rfl hm9 hD9 hr7 ?_) | refine wl (w_loadR hl hh rfl trivial one93 rfl hsb hsbD hs6 ?_)
      clear hl a; intro a hl
      refine wl (wl_val hl rfl trivial (r_move hl rfl) ?_)
      clear hl a; intro a hl
      refine wl (wl_val hl rfl trivial (r_nilCheck hl rfl) ?_)
      clear hl a; intro a hl
      refine wl (wl_val hl rfl trivial (r_field hl rfl fld47_0) ?_)
      clear hl a; intro a hl
      refine wl (wl_val hl rfl trivial (r_indexA hl rfl rfl arr29 (by omega) (by omega) (by first | (simp only [Int.reduceToNat]; rfl) | exact toNat_add1 _ | exact toNat_add2 _ _ | exact toNat_emod _ _ | exact Int.toNat_natCast _ | rfl)) ?_)
      clear hl a; intro a hl
      first | refine wl (w_load hl hh rfl trivial one27 rfl (by repeat (first | exact find_head | apply find_tail)) (by first | exact hqt | exact hs9 | exact hd9 | rfl) ?_) | refine wl (w_loadR hl hh rfl trivial one27 rfl hsb hsbD hs9 ?_) | refine wl (w_loadR hl hh rfl trivial one27 rfl hm9 hD9 hr8 ?_) | refine wl (w_loadR hl hh rfl trivial one27 rfl hm9 hD9 hr7 ?_) | refine wl (w_loadR hl hh rfl trivial one27 rfl hsb hsbD hs6 ?_)
      clear hl a; intro a hl
      refine wl (wl_val hl rfl trivial (r_move hl rfl) ?_)
      clear hl a; intro a hl
      refine wl (wl_val hl rfl trivial (r_indexS hl rfl rfl slc27 (by omega) (by omega) (by first | (simp only [Int.reduceToNat]; rfl) | exact toNat_add1 _ | exact toNat_add2 _ _ | exact toNat_emod _ _ | exact Int.toNat_natCast _ | rfl)) ?_)
      clear hl a; intro a hl
      refine wl (wl_val hl rfl trivial (r_field hl rfl fld95_4) ?_)
      clear hl a; intro a hl
      first | refine wl (w_load hl hh rfl trivial one3 rfl (by repeat (first | exact find_head | apply find_tail)) (by first | exact hqt | exact hs9 | exact hd9 | rfl) ?_) | refine wl (w_loadR hl hh rfl trivial one3 rfl hsb hsbD hs9 ?_) | refine wl (w_loadR hl hh rfl trivial one3 rfl hm9 hD9 hr8 ?_) | refine wl (w_loadR hl hh rfl trivial one3 rfl hm9 hD9 hr7 ?_) | refine wl (w_loadR hl hh rfl trivial one3 rfl hsb hsbD hs6 ?_)
      clear hl a; intro a hl
      refine wl (wl_val hl rfl trivial (r_min hl rfl rfl) ?_)
      clear hl a; intro a hl
      rw [min_cast, ← hfe] at hl
      refine wl (wl_val hl rfl trivial (r_assign hl rfl) ?_)
      clear hl a; intro a hl
      refine w_nil ?_
      have hl2 := hl.add (t := 3) (hl.add (t := 4) (hl.add (t := 5) (hl.add (t := 7) (hl.add (t := 20) (hl.add (t := 21) (hl.nil) rfl) rfl) rfl) rfl) rfl) rfl; clear hl; have hl := hl2; clear hl2
      refine blk_normal ?_
      refine then_normal ?_
      refine c_region ?_
      first | refine wl (wl_val hl rfl trivial (r_add hl rfl rfl (by simp only [Fits]; omega)) ?_) | refine wl (wl_val hl rfl trivial (r_addW hl rfl rfl) ?_)
      clear hl a; intro a hl
      refine wl (wl_val hl rfl trivial (r_move hl rfl) ?_)
      clear hl a; intro a hl
      refine w_nil ?_
      have hl2 := hl.add (t := 3) (hl.add (t := 4) (hl.add (t := 5) (hl.add (t := 7) (hl.add (t := 20) (hl.add (t := 21) (hl.nil) rfl) rfl) rfl) rfl) rfl) rfl; clear hl; have hl := hl2; clear hl2
      refine then_normal ?_
      refine ⟨i + 1, (by omega), (by omega), hl.addE (t := 21) (hl.addE (t := 7) (hl.addE (t := 3) (hl.addE (t := 4) (hl.addE (t := 5) (hl.addE (t := 20) (hl.nil) rfl (by first | rfl | exact congrArg (Value.int .i64) (i_succ i) | exact congrArg (fun z : Nat => Value.int .i64 (z : Int)) hfe.symm)) rfl (by first | rfl | exact congrArg (Value.int .i64) (i_succ i) | exact congrArg (fun z : Nat => Value.int .i64 (z : Int)) hfe.symm)) rfl (by first | rfl | exact congrArg (Value.int .i64) (i_succ i) | exact congrArg (fun z : Nat => Value.int .i64 (z : Int)) hfe.symm)) rfl (by first | rfl | exact congrArg (Value.int .i64) (i_succ i) | exact congrArg (fun z : Nat => Value.int .i64 (z : Int)) hfe.symm)) rfl (by first | rfl | exact congrArg (Value.int .i64) (i_succ i) | exact congrArg (fun z : Nat => Value.int .i64 (z : Int)) hfe.symm)) rfl (by first | rfl | exact congrArg (Value.int .i64) (i_succ i) | exact congrArg (fun z : Nat => Value.int .i64 (z : Int)) hfe.symm), hh.keep (by repeat (first | exact keeps_nil | apply keeps_cons (by repeat (first | exact find_head | apply find_tail)) (by first  | rfl) | exact keeps_self | exact keeps_left | exact keeps_right | exact keeps_swap | apply keeps_mv))⟩
    · intro hc1
      try simp only [decide_eq_true_eq, decide_eq_false_iff_not, Bool.not_eq_true', Bool.not_eq_false', Bool.not_eq_true, Bool.not_eq_false, Bool.and_eq_true, Bool.or_eq_true, Bool.and_eq_false_iff, Bool.or_eq_false_iff, Bool.not_not, ne_eq, Int.not_lt, Int.not_le, Decidable.not_not, beq_iff_eq, bne_iff_ne] at hc1
      have hfe := feF_none (H := H) (d := d) (i := i) (by omega)
      refine wp_skip ?_
      refine blk_normal ?_
      refine then_normal ?_
      refine c_region ?_
      first | refine wl (wl_val hl rfl trivial (r_add hl rfl rfl (by simp only [Fits]; omega)) ?_) | refine wl (wl_val hl rfl trivial (r_addW hl rfl rfl) ?_)
      clear hl a; intro a hl
      refine wl (wl_val hl rfl trivial (r_move hl rfl) ?_)
      clear hl a; intro a hl
      refine w_nil ?_
      have hl2 := hl.add (t := 3) (hl.add (t := 4) (hl.add (t := 5) (hl.add (t := 7) (hl.add (t := 20) (hl.add (t := 21) (hl.nil) rfl) rfl) rfl) rfl) rfl) rfl; clear hl; have hl := hl2; clear hl2
      refine then_normal ?_
      refine ⟨i + 1, (by omega), (by omega), hl.addE (t := 21) (hl.addE (t := 7) (hl.addE (t := 3) (hl.addE (t := 4) (hl.addE (t := 5) (hl.addE (t := 20) (hl.nil) rfl (by first | rfl | exact congrArg (Value.int .i64) (i_succ i) | exact congrArg (fun z : Nat => Value.int .i64 (z : Int)) hfe.symm)) rfl (by first | rfl | exact congrArg (Value.int .i64) (i_succ i) | exact congrArg (fun z : Nat => Value.int .i64 (z : Int)) hfe.symm)) rfl (by first | rfl | exact congrArg (Value.int .i64) (i_succ i) | exact congrArg (fun z : Nat => Value.int .i64 (z : Int)) hfe.symm)) rfl (by first | rfl | exact congrArg (Value.int .i64) (i_succ i) | exact congrArg (fun z : Nat => Value.int .i64 (z : Int)) hfe.symm)) rfl (by first | rfl | exact congrArg (Value.int .i64) (i_succ i) | exact congrArg (fun z : Nat => Value.int .i64 (z : Int)) hfe.symm)) rfl (by first | rfl | exact congrArg (Value.int .i64) (i_succ i) | exact congrArg (fun z : Nat => Value.int .i64 (z : Int)) hfe.symm), hh.keep (by repeat (first | exact keeps_nil | apply keeps_cons (by repeat (first | exact find_head | apply find_tail)) (by first  | rfl) | exact keeps_self | exact keeps_left | exact keeps_right | exact keeps_swap | apply keeps_mv))⟩
  · intro hc0
    try simp only [decide_eq_true_eq, decide_eq_false_iff_not, Bool.not_eq_true', Bool.not_eq_false', Bool.not_eq_true, Bool.not_eq_false, Bool.and_eq_true, Bool.or_eq_true, Bool.and_eq_false_iff, Bool.or_eq_false_iff, Bool.not_not, ne_eq, Int.not_lt, Int.not_le, Decidable.not_not, beq_iff_eq, bne_iff_ne] at hc0
    have hi66 : i = 6 := by omega
    subst hi66
    refine wp_exit ?_
    refine then_exit ?_
    refine then_exit ?_
    refine blk_exit ?_
    refine then_normal ?_
    refine c_seq ?_
    refine c_seq ?_
    refine c_region ?_
    refine wl (wl_val hl rfl trivial (r_move hl rfl) ?_)
    clear hl a; intro a hl
    refine wl (wl_val hl rfl trivial (r_eql hl rfl rfl) ?_)
    clear hl a; intro a hl
    refine w_nil ?_
    have hl2 := hl.add (t := 3) (hl.add (t := 4) (hl.add (t := 5) (hl.add (t := 7) (hl.add (t := 48) (hl.nil) rfl) rfl) rfl) rfl) rfl; clear hl; have hl := hl2; clear hl2
    refine then_normal ?_
    refine c_cond hl rfl ?_ ?_
    · intro hc2
      try simp only [decide_eq_true_eq, decide_eq_false_iff_not, Bool.not_eq_true', Bool.not_eq_false', Bool.not_eq_true, Bool.not_eq_false, Bool.and_eq_true, Bool.or_eq_true, Bool.and_eq_false_iff, Bool.or_eq_false_iff, Bool.not_not, ne_eq, Int.not_lt, Int.not_le, Decidable.not_not, beq_iff_eq, bne_iff_ne] at hc2
      refine c_seq ?_
      refine c_region ?_
      refine wl (wl_val hl rfl trivial (r_assign hl rfl) ?_)
      clear hl a; intro a hl
      refine w_nil ?_
      have hl2 := hl.add (t := 6) (hl.nil) rfl; clear hl; have hl := hl2; clear hl2
      refine then_normal ?_
      refine wp_ret ?_
      refine then_ret ?_
      refine f_ret1 (F' := [(mb, MO kStr l0)]) hl hh rfl rfl (by repeat (first | exact keeps_nil | apply keeps_cons (by repeat (first | exact find_head | apply find_tail)) (by first  | rfl) | exact keeps_self | exact keeps_left | exact keeps_right | exact keeps_swap | apply keeps_mv)) ?_
      exact ⟨true, l0, rfl, fun q => (by cases q), hF0, rfl⟩
    · intro hc2
      try simp only [decide_eq_true_eq, decide_eq_false_iff_not, Bool.not_eq_true', Bool.not_eq_false', Bool.not_eq_true, Bool.not_eq_false, Bool.and_eq_true, Bool.or_eq_true, Bool.and_eq_false_iff, Bool.or_eq_false_iff, Bool.not_not, ne_eq, Int.not_lt, Int.not_le, Decidable.not_not, beq_iff_eq, bne_iff_ne] at hc2
      have hfe6 : feF H d 6 ≠ never := fun q => hc2 (by rw [q]; rfl)
      refine wp_skip ?_
      refine then_normal ?_
      refine c_seq ?_
      refine c_region ?_
      refine wl (w_loadA hl hh rfl trivial agg49 rfl (by repeat (first | exact find_head | apply find_tail)) (by exact take6 _) (by rw [arrL_length]) ?_)
      clear hl a; intro a hl
      refine wl (w_loadA hl hh rfl trivial agg53 rfl (by repeat (first | exact find_head | apply find_tail)) (by first | exact hrec | (simp only [List.getElem?_cons_zero, List.getElem?_cons_succ, Value.cells, List.take_zero, List.take_succ_cons, List.take_nil, List.drop_zero, List.drop_succ_cons, List.drop_nil, List.length_cons, List.length_nil, List.cons_append, List.nil_append, List.append_nil, Nat.zero_add, Nat.add_zero, Nat.reduceAdd, Nat.reduceBEq, Nat.reduceEqDiff, Nat.ble, BEq.rfl, Bool.and_true, Bool.and_self, cond_true, beq_self_eq_true]; rfl)) (by first | rfl | (simp; done)) ?_)
      clear hl a; intro a hl
      refine wl (w_call hl hh rfl trivial rfl cal28 rfl (keyS_spec hS d hd2) (by repeat (first | exact keeps_nil | apply keeps_cons (by repeat (first | exact find_head | apply find_tail)) (by first  | rfl) | exact keeps_self | exact keeps_left | exact keeps_right | exact keeps_swap | apply keeps_mv)) (mem_keepD hh hZ0 hZD) ?_)
      clear hl hh a w; intro vc Fc a w hR hl hh
      obtain ⟨rfl, rfl⟩ := hR
      try simp only [List.cons_append, List.nil_append] at hh
      refine wl (wl_val hl rfl trivial (r_assign hl rfl) ?_)
      clear hl a; intro a hl
      refine w_nil ?_
      have hl2 := hl.add (t := 3) (hl.add (t := 4) (hl.add (t := 5) (hl.add (t := 7) (hl.add (t := 10) (hl.nil) rfl) rfl) rfl) rfl) rfl; clear hl; have hl := hl2; clear hl2
      refine then_normal ?_
      refine c_seq ?_
      refine c_seq ?_
      refine c_region ?_
      first | refine wl (w_load hl hh rfl trivial one93 rfl (by repeat (first | exact find_head | apply find_tail)) (by first | exact hqt | exact hs9 | exact hd9 | rfl) ?_) | refine wl (w_loadR hl hh rfl trivial one93 rfl hsb hsbD hs9 ?_) | refine wl (w_loadR hl hh rfl trivial one93 rfl hm9 hD9 hr8 ?_) | refine wl (w_loadR hl hh rfl trivial one93 rfl hm9 hD9 hr7 ?_) | refine wl (w_loadR hl hh rfl trivial one93 rfl hsb hsbD hs6 ?_)
      clear hl a; intro a hl
      refine wl (wl_val hl rfl trivial (r_nilCheck hl rfl) ?_)
      clear hl a; intro a hl
      refine wl (wl_val hl rfl trivial (r_field hl rfl fld47_1) ?_)
      clear hl a; intro a hl
      first | refine wl (w_load hl hh rfl trivial one45 rfl (by repeat (first | exact find_head | apply find_tail)) (by first | exact hqt | exact hs9 | exact hd9 | rfl) ?_) | refine wl (w_loadR hl hh rfl trivial one45 rfl hsb hsbD hs9 ?_) | refine wl (w_loadR hl hh rfl trivial one45 rfl hm9 hD9 hr8 ?_) | refine wl (w_loadR hl hh rfl trivial one45 rfl hm9 hD9 hr7 ?_) | refine wl (w_loadR hl hh rfl trivial one45 rfl hsb hsbD hs6 ?_)
      clear hl a; intro a hl
      refine wl (wl_val hl rfl trivial (r_move hl rfl) ?_)
      clear hl a; intro a hl
      refine wl (w_lookup (keyStr Tryz.underlying9) Tryz.underlying45 zero4 hl hh rfl trivial rfl rfl (by repeat (first | exact find_head | apply find_tail)) ?_)
      clear hl a; intro a hl
      obtain ⟨fb, hfb, hfv⟩ := fail_get hF0 hSO
      rw [hfb] at hl
      refine w_nil ?_
      have hl2 := hl.add (t := 3) (hl.add (t := 4) (hl.add (t := 5) (hl.add (t := 7) (hl.add (t := 10) (hl.add (t := 57) (hl.nil) rfl) rfl) rfl) rfl) rfl) rfl; clear hl; have hl := hl2; clear hl2
      refine then_normal ?_
      refine c_cond hl rfl ?_ ?_
      · intro hc3
        try simp only [decide_eq_true_eq, decide_eq_false_iff_not, Bool.not_eq_true', Bool.not_eq_false', Bool.not_eq_true, Bool.not_eq_false, Bool.and_eq_true, Bool.or_eq_true, Bool.and_eq_false_iff, Bool.or_eq_false_iff, Bool.not_not, ne_eq, Int.not_lt, Int.not_le, Decidable.not_not, beq_iff_eq, bne_iff_ne] at hc3
        refine c_seq ?_
        refine c_region ?_
        refine wl (wl_val hl rfl trivial (r_assign hl rfl) ?_)
        clear hl a; intro a hl
        refine w_nil ?_
        have hl2 := hl.add (t := 6) (hl.nil) rfl; clear hl; have hl := hl2; clear hl2
        refine then_normal ?_
        refine wp_ret ?_
        refine then_ret ?_
        refine f_ret1 (F' := [(mb, MO kStr l0)]) hl hh rfl rfl (by repeat (first | exact keeps_nil | apply keeps_cons (by repeat (first | exact find_head | apply find_tail)) (by first  | rfl) | exact keeps_self | exact keeps_left | exact keeps_right | exact keeps_swap | apply keeps_mv)) ?_
        exact ⟨false, l0, rfl, fun _ => hfv hc3, hF0, rfl⟩
      · intro hc3
        try simp only [decide_eq_true_eq, decide_eq_false_iff_not, Bool.not_eq_true', Bool.not_eq_false', Bool.not_eq_true, Bool.not_eq_false, Bool.and_eq_true, Bool.or_eq_true, Bool.and_eq_false_iff, Bool.or_eq_false_iff, Bool.not_not, ne_eq, Int.not_lt, Int.not_le, Decidable.not_not, beq_iff_eq, bne_iff_ne] at hc3
        refine wp_skip ?_
        refine then_normal ?_
        refine c_seq ?_
        refine c_region ?_
        refine wl (w_alloc hl hh rfl trivial zero97 rfl ?_)
        clear hl hh a w; intro k11 a w hl hh
        refine w_nil ?_
        have hl2 := hl.add (t := 3) (hl.add (t := 4) (hl.add (t := 5) (hl.add (t := 7) (hl.add (t := 10) (hl.add (t := 11) (hl.nil) rfl) rfl) rfl) rfl) rfl) rfl; clear hl; have hl := hl2; clear hl2
        refine then_normal ?_
        refine c_seq ?_
        refine c_seq ?_
        refine c_region ?_
        refine wl (w_loadA hl hh rfl trivial agg49 rfl (by repeat (first | exact find_head | apply find_tail)) (by exact take6 _) (by rw [arrL_length]) ?_)
        clear hl a; intro a hl
        refine wl (wl_val hl rfl trivial (r_move hl rfl) ?_)
        clear hl a; intro a hl
        refine w_nil ?_
        have hl2 := hl.add (t := 3) (hl.add (t := 4) (hl.add (t := 5) (hl.add (t := 7) (hl.add (t := 10) (hl.add (t := 11) (hl.add (t := 58) (hl.add (t := 59) (hl.nil) rfl) rfl) rfl) rfl) rfl) rfl) rfl) rfl; clear hl; have hl := hl2; clear hl2
        refine then_normal ?_
        refine wp_block ?_
        obtain ⟨KS1, hKS1, hk⟩ := (hl.add (t := 3) (hl.add (t := 4) (hl.add (t := 5) (hl.add (t := 7) (hl.add (t := 10) (hl.add (t := 11) (hl.add (t := 58) (hl.nil) rfl) rfl) rfl) rfl) rfl) rfl) rfl).name
        obtain ⟨HS1, hHS1, hh2⟩ := hh.nameT (A := [(k11, C [.slice none 0 0] 97)]) (U := ([] : List (Nat × Obj))) (keeps_cons (b := k11) (o' := C [.slice none 0 0] 97) (by repeat (first | exact find_head | apply find_tail)) (by first | rfl) (keeps_nil))
        refine c_loop (α := TSt) (fun s => 6 - s.i) (fun s a w => (s.i ≤ 6 ∧ s.ts = (List.range s.i).filter (candB H d) ∧ Row s.tv s.ts.length (fl tc s.ts) 1 3 s.E) ∧ Sl 143 ([(59, .int .i64 (s.i : Int))] ++ KS1) a ∧ Has _ w0 ([(k11, C [s.tv] 97)] ++ (HS1 ++ s.E)) w) ⟨0, [], .slice none 0 0, []⟩ ⟨⟨Nat.zero_le _, rfl, rowT0⟩, hl.addE (t := 59) (hk) rfl (by first | rfl), hh2⟩ ?_
        clear hk hh2 hl hh a w
        intro s a w hI
        obtain ⟨⟨hi, hts0, hR⟩, hl, hh⟩ := hI
        subst hKS1; subst hHS1
        simp only [List.cons_append, List.nil_append, List.append_nil] at hl hh
        obtain ⟨i, ts, tv, E⟩ := s
        simp only at hi hts0 hR hl hh
        have htl0 : ts.length ≤ 6 := by
          rw [hts0]
          have := List.length_filter_le (candB H d) (List.range i)
          rw [List.length_range] at this
          omega
        refine c_seq ?_
        refine c_region ?_
        refine wl (wl_val hl rfl trivial (r_lss hl rfl rfl) ?_)
        clear hl a; intro a hl
        refine w_nil ?_
        have hl2 := hl.add (t := 3) (hl.add (t := 4) (hl.add (t := 5) (hl.add (t := 7) (hl.add (t := 10) (hl.add (t := 11) (hl.add (t := 58) (hl.add (t := 59) (hl.add (t := 60) (hl.nil) rfl) rfl) rfl) rfl) rfl) rfl) rfl) rfl) rfl; clear hl; have hl := hl2; clear hl2
        refine then_normal ?_
        refine c_seq ?_
        refine c_cond hl rfl ?_ ?_
        · intro hc4
          try simp only [decide_eq_true_eq, decide_eq_false_iff_not, Bool.not_eq_true', Bool.not_eq_false', Bool.not_eq_true, Bool.not_eq_false, Bool.and_eq_true, Bool.or_eq_true, Bool.and_eq_false_iff, Bool.or_eq_false_iff, Bool.not_not, ne_eq, Int.not_lt, Int.not_le, Decidable.not_not, beq_iff_eq, bne_iff_ne] at hc4
          have hi6 : i < 6 := by omega
          obtain ⟨p9, c9, hsv9⟩ := row_val (hHR i hi6)
          have hs9 := svAt (mv := .map (some mb)) hi6 hsv9
          refine wp_skip ?_
          refine then_normal ?_
          refine c_seq ?_
          refine wp_block ?_
          refine c_seq ?_
          refine c_region ?_
          refine wl (wl_val hl rfl trivial (r_move hl rfl) ?_)
          clear hl a; intro a hl
          refine wl (wl_val hl rfl trivial (r_indexAgg hl rfl rfl arrT49 one3 (by omega) (by omega) (by first | (simp only [Int.reduceToNat]; rfl) | exact toNat_add1 _ | exact toNat_add2 _ _ | exact toNat_emod _ _ | exact Int.toNat_natCast _ | rfl) (by exact (arrL_get (by omega)))) ?_)
          clear hl a; intro a hl
          rw [Nat.mul_one] at hl
          refine wl (wl_val hl rfl trivial (r_assign hl rfl) ?_)
          clear hl a; intro a hl
          refine wl (wl_val hl rfl trivial (r_assign hl rfl) ?_)
          clear hl a; intro a hl
          refine w_nil ?_
          have hl2 := hl.add (t := 3) (hl.add (t := 4) (hl.add (t := 5) (hl.add (t := 7) (hl.add (t := 10) (hl.add (t := 11) (hl.add (t := 12) (hl.add (t := 13) (hl.add (t := 58) (hl.add (t := 59) (hl.nil) rfl) rfl) rfl) rfl) rfl) rfl) rfl) rfl) rfl) rfl; clear hl; have hl := hl2; clear hl2
          refine then_normal ?_
          refine c_seq ?_
          refine c_region ?_
          refine wl (wl_val hl rfl trivial (r_move hl rfl) ?_)
          clear hl a; intro a hl
          first | refine wl (w_load hl hh rfl trivial one93 rfl (by repeat (first | exact find_head | apply find_tail)) (by first | exact hqt | exact hs9 | exact hd9 | rfl) ?_) | refine wl (w_loadR hl hh rfl trivial one93 rfl hsb hsbD hs9 ?_) | refine wl (w_loadR hl hh rfl trivial one93 rfl hm9 hD9 hr8 ?_) | refine wl (w_loadR hl hh rfl trivial one93 rfl hm9 hD9 hr7 ?_) | refine wl (w_loadR hl hh rfl trivial one93 rfl hsb hsbD hs6 ?_)
          clear hl a; intro a hl
          refine wl (wl_val hl rfl trivial (r_move hl rfl) ?_)
          clear hl a; intro a hl
          refine wl (wl_val hl rfl trivial (r_nilCheck hl rfl) ?_)
          clear hl a; intro a hl
          refine wl (wl_val hl rfl trivial (r_field hl rfl fld47_0) ?_)
          clear hl a; intro a hl
          refine wl (wl_val hl rfl trivial (r_indexA hl rfl rfl arr29 (by omega) (by omega) (by first | (simp only [Int.reduceToNat]; rfl) | exact toNat_add1 _ | exact toNat_add2 _ _ | exact toNat_emod _ _ | exact Int.toNat_natCast _ | rfl)) ?_)
          clear hl a; intro a hl
          first | refine wl (w_load hl hh rfl trivial one27 rfl (by repeat (first | exact find_head | apply find_tail)) (by first | exact hqt | exact hs9 | exact hd9 | rfl) ?_) | refine wl (w_loadR hl hh rfl trivial one27 rfl hsb hsbD hs9 ?_) | refine wl (w_loadR hl hh rfl trivial one27 rfl hm9 hD9 hr8 ?_) | refine wl (w_loadR hl hh rfl trivial one27 rfl hm9 hD9 hr7 ?_) | refine wl (w_loadR hl hh rfl trivial one27 rfl hsb hsbD hs6 ?_)
          clear hl a; intro a hl
          refine wl (wl_val hl rfl trivial (r_lenS hl rfl slc27) ?_)
          clear hl a; intro a hl
          refine wl (wl_val hl rfl trivial (r_lss hl rfl rfl) ?_)
          clear hl a; intro a hl
          refine wl (wl_val hl rfl trivial (r_move hl rfl) ?_)
          clear hl a; intro a hl
          refine sl_split (t := 72) hl rfl ?_ ?_
          · intro hg1; clear hl; intro hl
            try simp only [decide_eq_true_eq, decide_eq_false_iff_not, Bool.not_eq_true', Bool.not_eq_false', Bool.not_eq_true, Bool.not_eq_false, Bool.and_eq_true, Bool.or_eq_true, Bool.and_eq_false_iff, Bool.or_eq_false_iff, Bool.not_not, ne_eq, Int.not_lt, Int.not_le, Decidable.not_not, beq_iff_eq, bne_iff_ne] at hg1
            first | refine wl (w_load hl hh rfl ⟨_, _, rfl, rfl, rfl⟩ one93 rfl (by repeat (first | exact find_head | apply find_tail)) (by first | exact hqt | exact hs9 | exact hd9 | rfl) ?_) | refine wl (w_loadR hl hh rfl ⟨_, _, rfl, rfl, rfl⟩ one93 rfl hsb hsbD hs9 ?_) | refine wl (w_loadR hl hh rfl ⟨_, _, rfl, rfl, rfl⟩ one93 rfl hm9 hD9 hr8 ?_) | refine wl (w_loadR hl hh rfl ⟨_, _, rfl, rfl, rfl⟩ one93 rfl hm9 hD9 hr7 ?_) | refine wl (w_loadR hl hh rfl ⟨_, _, rfl, rfl, rfl⟩ one93 rfl hsb hsbD hs6 ?_)
            clear hl a; intro a hl
            obtain ⟨r, hr⟩ : ∃ r, (H i)[d i]? = some r := ⟨_, List.getElem?_eq_getElem (by omega)⟩
            have hrow9 := hHR i hi6
            rw [hsv9] at hrow9
            obtain ⟨b9, junk9, rfl, hj9, hcc9, hE9⟩ := row_pos hrow9 (by omega)
            have hm9 : w0.heap[b9]? = some (C (fl recL (H i) ++ junk9) 95) := hES i hi6 b9 _ (by rw [hE9]; exact List.mem_singleton.2 rfl)
            have hD9 : b9 ∉ List.map Prod.fst [(mb, MO kStr l0)] := by simp; exact hESm i hi6 _ (by rw [hE9]; exact List.mem_singleton.2 rfl)
            have hr8 := fl_cell recL_len hr (recL_8 _) junk9
            have hr7 := fl_cell recL_len hr (recL_7 _) junk9
            refine wl (wl_val hl rfl ⟨_, _, rfl, rfl, rfl⟩ (r_move hl rfl) ?_)
            clear hl a; intro a hl
            refine wl (wl_val hl rfl ⟨_, _, rfl, rfl, rfl⟩ (r_nilCheck hl rfl) ?_)
            clear hl a; intro a hl
            refine wl (wl_val hl rfl ⟨_, _, rfl, rfl, rfl⟩ (r_field hl rfl fld47_0) ?_)
            clear hl a; intro a hl
            refine wl (wl_val hl rfl ⟨_, _, rfl, rfl, rfl⟩ (r_indexA hl rfl rfl arr29 (by omega) (by omega) (by first | (simp only [Int.reduceToNat]; rfl) | exact toNat_add1 _ | exact toNat_add2 _ _ | exact toNat_emod _ _ | exact Int.toNat_natCast _ | rfl)) ?_)
            clear hl a; intro a hl
            first | refine wl (w_load hl hh rfl ⟨_, _, rfl, rfl, rfl⟩ one27 rfl (by repeat (first | exact find_head | apply find_tail)) (by first | exact hqt | exact hs9 | exact hd9 | rfl) ?_) | refine wl (w_loadR hl hh rfl ⟨_, _, rfl, rfl, rfl⟩ one27 rfl hsb hsbD hs9 ?_) | refine wl (w_loadR hl hh rfl ⟨_, _, rfl, rfl, rfl⟩ one27 rfl hm9 hD9 hr8 ?_) | refine wl (w_loadR hl hh rfl ⟨_, _, rfl, rfl, rfl⟩ one27 rfl hm9 hD9 hr7 ?_) | refine wl (w_loadR hl hh rfl ⟨_, _, rfl, rfl, rfl⟩ one27 rfl hsb hsbD hs6 ?_)
            clear hl a; intro a hl
            refine wl (wl_val hl rfl ⟨_, _, rfl, rfl, rfl⟩ (r_move hl rfl) ?_)
            clear hl a; intro a hl
            refine wl (wl_val hl rfl ⟨_, _, rfl, rfl, rfl⟩ (r_indexS hl rfl rfl slc27 (by omega) (by omega) (by first | (simp only [Int.reduceToNat]; rfl) | exact toNat_add1 _ | exact toNat_add2 _ _ | exact toNat_emod _ _ | exact Int.toNat_natCast _ | rfl)) ?_)
            clear hl a; intro a hl
            refine wl (wl_val hl rfl ⟨_, _, rfl, rfl, rfl⟩ (r_field hl rfl fld95_3) ?_)
            clear hl a; intro a hl
            first | refine wl (w_load hl hh rfl ⟨_, _, rfl, rfl, rfl⟩ one3 rfl (by repeat (first | exact find_head | apply find_tail)) (by first | exact hqt | exact hs9 | exact hd9 | rfl) ?_) | refine wl (w_loadR hl hh rfl ⟨_, _, rfl, rfl, rfl⟩ one3 rfl hsb hsbD hs9 ?_) | refine wl (w_loadR hl hh rfl ⟨_, _, rfl, rfl, rfl⟩ one3 rfl hm9 hD9 hr8 ?_) | refine wl (w_loadR hl hh rfl ⟨_, _, rfl, rfl, rfl⟩ one3 rfl hm9 hD9 hr7 ?_) | refine wl (w_loadR hl hh rfl ⟨_, _, rfl, rfl, rfl⟩ one3 rfl hsb hsbD hs6 ?_)
            clear hl a; intro a hl
            refine wl (wl_val hl rfl ⟨_, _, rfl, rfl, rfl⟩ (r_move hl rfl) ?_)
            clear hl a; intro a hl
            refine wl (wl_val hl rfl ⟨_, _, rfl, rfl, rfl⟩ (r_leq hl rfl rfl) ?_)
            clear hl a; intro a hl
            refine wl (wl_val hl rfl trivial (r_pickT hl rfl rfl) ?_)
            clear hl a; intro a hl
            refine w_nil ?_
            have hl2 := hl.add (t := 3) (hl.add (t := 4) (hl.add (t := 5) (hl.add (t := 7) (hl.add (t := 10) (hl.add (t := 11) (hl.add (t := 12) (hl.add (t := 58) (hl.add (t := 59) (hl.add (t := 85) (hl.nil) rfl) rfl) rfl) rfl) rfl) rfl) rfl) rfl) rfl) rfl; clear hl; have hl := hl2; clear hl2
            refine then_normal ?_
            refine c_cond hl rfl ?_ ?_
            · intro hc5
              try simp only [decide_eq_true_eq, decide_eq_false_iff_not, Bool.not_eq_true', Bool.not_eq_false', Bool.not_eq_true, Bool.not_eq_false, Bool.and_eq_true, Bool.or_eq_true, Bool.and_eq_false_iff, Bool.or_eq_false_iff, Bool.not_not, ne_eq, Int.not_lt, Int.not_le, Decidable.not_not, beq_iff_eq, bne_iff_ne] at hc5
              have hcb : candB H d i = true := by unfold candB; rw [hr]; exact decide_eq_true (by omega)
              have hN1 : ts ++ [i] = (List.range (i + 1)).filter (candB H d) := by rw [filt_succ, if_pos hcb, hts0]
              refine c_region ?_
              first | refine wl (w_load hl hh rfl trivial one97 rfl (by repeat (first | exact find_head | apply find_tail)) (by first | exact hqt | exact hs9 | exact hd9 | rfl) ?_) | refine wl (w_loadR hl hh rfl trivial one97 rfl hsb hsbD hs9 ?_) | refine wl (w_loadR hl hh rfl trivial one97 rfl hm9 hD9 hr8 ?_) | refine wl (w_loadR hl hh rfl trivial one97 rfl hm9 hD9 hr7 ?_) | refine wl (w_loadR hl hh rfl trivial one97 rfl hsb hsbD hs6 ?_)
              clear hl a; intro a hl
              refine wl (wl_val hl rfl trivial (r_move hl rfl) ?_)
              clear hl a; intro a hl
              refine wl (w_buildSlice hl hh rfl trivial app97 zero3 rfl rfl rfl rfl rfl (by simp only [fillL, arrPl, List.range_succ, List.range_zero, List.map_cons, List.map_nil, List.map_append, List.nil_append, List.replicate_succ, List.replicate_zero, List.flatten_cons, List.flatten_nil, Nat.zero_mul, Nat.mul_one, Nat.one_mul, Nat.reduceMul, setL, List.getElem?_cons_zero, List.getElem?_cons_succ, Value.cells, List.take_zero, List.take_succ_cons, List.take_nil, List.drop_zero, List.drop_succ_cons, List.drop_nil, List.length_cons, List.length_nil, List.cons_append, List.nil_append, List.append_nil, Nat.zero_add, Nat.add_zero, Nat.reduceAdd, Nat.reduceBEq, Nat.reduceEqDiff, Nat.ble, BEq.rfl, Bool.and_true, Bool.and_self, cond_true, beq_self_eq_true]; rfl) ?_)
              clear hl hh a w; intro k88 a w hl hh
              refine wl (w_append (news := [.int .i64 (i : Int)]) hl hh rfl trivial app97 rfl rfl rfl hR (by repeat (first | exact keeps_nil | apply keeps_cons (by repeat (first | exact find_head | apply find_tail)) (by first  | rfl) | exact keeps_self | exact keeps_left | exact keeps_right | exact keeps_swap | apply keeps_mv)) (hh.mem _ _ (Find.mem (by repeat (first | exact find_head | apply find_tail)))) rfl rfl rfl (by omega) (by omega) (by omega) (by decide) ?_)
              clear hl hh a w; intro rv2 E2 a w hR2 hl hh
              have hh3 := hh.comm; clear hh; have hh := hh3; clear hh3
              simp only [List.cons_append, List.nil_append] at hh
              refine wl (w_store hl hh trivial one97 rfl rfl (by repeat (first | exact find_head | apply find_tail)) (by first | (simp; done) | (simp; omega)) (by first | rfl | assumption | (apply Row.one; assumption)) (by first | (simp only [setL, List.getElem?_cons_zero, List.getElem?_cons_succ, Value.cells, List.take_zero, List.take_succ_cons, List.take_nil, List.drop_zero, List.drop_succ_cons, List.drop_nil, List.length_cons, List.length_nil, List.cons_append, List.nil_append, List.append_nil, Nat.zero_add, Nat.add_zero, Nat.reduceAdd, Nat.reduceBEq, Nat.reduceEqDiff, Nat.ble, BEq.rfl, Bool.and_true, Bool.and_self, cond_true, beq_self_eq_true]; rfl)) ?_)
              clear hh w; intro w hh
              refine w_nil ?_
              have hl2 := hl.add (t := 3) (hl.add (t := 4) (hl.add (t := 5) (hl.add (t := 7) (hl.add (t := 10) (hl.add (t := 11) (hl.add (t := 58) (hl.add (t := 59) (hl.nil) rfl) rfl) rfl) rfl) rfl) rfl) rfl) rfl; clear hl; have hl := hl2; clear hl2
              refine blk_normal ?_
              refine then_normal ?_
              refine c_region ?_
              first | refine wl (wl_val hl rfl trivial (r_add hl rfl rfl (by simp only [Fits]; omega)) ?_) | refine wl (wl_val hl rfl trivial (r_addW hl rfl rfl) ?_)
              clear hl a; intro a hl
              refine wl (wl_val hl rfl trivial (r_move hl rfl) ?_)
              clear hl a; intro a hl
              refine w_nil ?_
              have hl2 := hl.add (t := 3) (hl.add (t := 4) (hl.add (t := 5) (hl.add (t := 7) (hl.add (t := 10) (hl.add (t := 11) (hl.add (t := 58) (hl.add (t := 59) (hl.nil) rfl) rfl) rfl) rfl) rfl) rfl) rfl) rfl; clear hl; have hl := hl2; clear hl2
              refine then_normal ?_
              first | refine ⟨⟨i + 1, ts ++ [i], rv2, E2⟩, (by simp only; omega), ⟨by simp only; omega, hN1, rowT1 hR2⟩, hl.addE (t := 59) (hl.addE (t := 3) (hl.addE (t := 4) (hl.addE (t := 5) (hl.addE (t := 7) (hl.addE (t := 10) (hl.addE (t := 11) (hl.addE (t := 58) (hl.nil) rfl (by first | rfl | exact congrArg (Value.int .i64) (i_succ i))) rfl (by first | rfl | exact congrArg (Value.int .i64) (i_succ i))) rfl (by first | rfl | exact congrArg (Value.int .i64) (i_succ i))) rfl (by first | rfl | exact congrArg (Value.int .i64) (i_succ i))) rfl (by first | rfl | exact congrArg (Value.int .i64) (i_succ i))) rfl (by first | rfl | exact congrArg (Value.int .i64) (i_succ i))) rfl (by first | rfl | exact congrArg (Value.int .i64) (i_succ i))) rfl (by first | rfl | exact congrArg (Value.int .i64) (i_succ i)), hh.keep (by repeat (first | exact keeps_nil | apply keeps_cons (by repeat (first | exact find_head | apply find_tail)) (by first  | rfl) | exact keeps_self | exact keeps_left | exact keeps_right | exact keeps_swap | apply keeps_mv))⟩ | refine ⟨⟨i + 1, ts, tv, E⟩, (by simp only; omega), ⟨by simp only; omega, hN1, hR⟩, hl.addE (t := 59) (hl.addE (t := 3) (hl.addE (t := 4) (hl.addE (t := 5) (hl.addE (t := 7) (hl.addE (t := 10) (hl.addE (t := 11) (hl.addE (t := 58) (hl.nil) rfl (by first | rfl | exact congrArg (Value.int .i64) (i_succ i))) rfl (by first | rfl | exact congrArg (Value.int .i64) (i_succ i))) rfl (by first | rfl | exact congrArg (Value.int .i64) (i_succ i))) rfl (by first | rfl | exact congrArg (Value.int .i64) (i_succ i))) rfl (by first | rfl | exact congrArg (Value.int .i64) (i_succ i))) rfl (by first | rfl | exact congrArg (Value.int .i64) (i_succ i))) rfl (by first | rfl | exact congrArg (Value.int .i64) (i_succ i))) rfl (by first | rfl | exact congrArg (Value.int .i64) (i_succ i)), hh.keep (by repeat (first | exact keeps_nil | apply keeps_cons (by repeat (first | exact find_head | apply find_tail)) (by first  | rfl) | exact keeps_self | exact keeps_left | exact keeps_right | exact keeps_swap | apply keeps_mv))⟩
            · intro hc5
              try simp only [decide_eq_true_eq, decide_eq_false_iff_not, Bool.not_eq_true', Bool.not_eq_false', Bool.not_eq_true, Bool.not_eq_false, Bool.and_eq_true, Bool.or_eq_true, Bool.and_eq_false_iff, Bool.or_eq_false_iff, Bool.not_not, ne_eq, Int.not_lt, Int.not_le, Decidable.not_not, beq_iff_eq, bne_iff_ne] at hc5
              have hcb : ¬ candB H d i = true := by
                first
                | (unfold candB; rw [hr]; simp only [decide_eq_true_eq]; omega)
                | (intro q; have := cand_lt q; omega)
              have hN1 : ts = (List.range (i + 1)).filter (candB H d) := by rw [filt_succ, if_neg hcb, hts0]
              refine wp_skip ?_
              refine blk_normal ?_
              refine then_normal ?_
              refine c_region ?_
              first | refine wl (wl_val hl rfl trivial (r_add hl rfl rfl (by simp only [Fits]; omega)) ?_) | refine wl (wl_val hl rfl trivial (r_addW hl rfl rfl) ?_)
              clear hl a; intro a hl
              refine wl (wl_val hl rfl trivial (r_move hl rfl) ?_)
              clear hl a; intro a hl
              refine w_nil ?_
              have hl2 := hl.add (t := 3) (hl.add (t := 4) (hl.add (t := 5) (hl.add (t := 7) (hl.add (t := 10) (hl.add (t := 11) (hl.add (t := 58) (hl.add (t := 59) (hl.nil) rfl) rfl) rfl) rfl) rfl) rfl) rfl) rfl; clear hl; have hl := hl2; clear hl2
              refine then_normal ?_
              first | refine ⟨⟨i + 1, ts ++ [i], rv2, E2⟩, (by simp only; omega), ⟨by simp only; omega, hN1, rowT1 hR2⟩, hl.addE (t := 59) (hl.addE (t := 3) (hl.addE (t := 4) (hl.addE (t := 5) (hl.addE (t := 7) (hl.addE (t := 10) (hl.addE (t := 11) (hl.addE (t := 58) (hl.nil) rfl (by first | rfl | exact congrArg (Value.int .i64) (i_succ i))) rfl (by first | rfl | exact congrArg (Value.int .i64) (i_succ i))) rfl (by first | rfl | exact congrArg (Value.int .i64) (i_succ i))) rfl (by first | rfl | exact congrArg (Value.int .i64) (i_succ i))) rfl (by first | rfl | exact congrArg (Value.int .i64) (i_succ i))) rfl (by first | rfl | exact congrArg (Value.int .i64) (i_succ i))) rfl (by first | rfl | exact congrArg (Value.int .i64) (i_succ i))) rfl (by first | rfl | exact congrArg (Value.int .i64) (i_succ i)), hh.keep (by repeat (first | exact keeps_nil | apply keeps_cons (by repeat (first | exact find_head | apply find_tail)) (by first  | rfl) | exact keeps_self | exact keeps_left | exact keeps_right | exact keeps_swap | apply keeps_mv))⟩ | refine ⟨⟨i + 1, ts, tv, E⟩, (by simp only; omega), ⟨by simp only; omega, hN1, hR⟩, hl.addE (t := 59) (hl.addE (t := 3) (hl.addE (t := 4) (hl.addE (t := 5) (hl.addE (t := 7) (hl.addE (t := 10) (hl.addE (t := 11) (hl.addE (t := 58) (hl.nil) rfl (by first | rfl | exact congrArg (Value.int .i64) (i_succ i))) rfl (by first | rfl | exact congrArg (Value.int .i64) (i_succ i))) rfl (by first | rfl | exact congrArg (Value.int .i64) (i_succ i))) rfl (by first | rfl | exact congrArg (Value.int .i64) (i_succ i))) rfl (by first | rfl | exact congrArg (Value.int .i64) (i_succ i))) rfl (by first | rfl | exact congrArg (Value.int .i64) (i_succ i))) rfl (by first | rfl | exact congrArg (Value.int .i64) (i_succ i))) rfl (by first | rfl | exact congrArg (Value.int .i64) (i_succ i)), hh.keep (by repeat (first | exact keeps_nil | apply keeps_cons (by repeat (first | exact find_head | apply find_tail)) (by first  | rfl) | exact keeps_self | exact keeps_left | exact keeps_right | exact keeps_swap | apply keeps_mv))⟩
          · intro hg1; clear hl; intro hl
            try simp only [decide_eq_true_eq, decide_eq_false_iff_not, Bool.not_eq_true', Bool.not_eq_false', Bool.not_eq_true, Bool.not_eq_false, Bool.and_eq_true, Bool.or_eq_true, Bool.and_eq_false_iff, Bool.or_eq_false_iff, Bool.not_not, ne_eq, Int.not_lt, Int.not_le, Decidable.not_not, beq_iff_eq, bne_iff_ne] at hg1
            refine wl (wl_skip hl rfl ⟨_, _, rfl, rfl, rfl⟩ ?_)
            clear hl a; intro a hl
            refine wl (wl_skip hl rfl ⟨_, _, rfl, rfl, rfl⟩ ?_)
            clear hl a; intro a hl
            refine wl (wl_skip hl rfl ⟨_, _, rfl, rfl, rfl⟩ ?_)
            clear hl a; intro a hl
            refine wl (wl_skip hl rfl ⟨_, _, rfl, rfl, rfl⟩ ?_)
            clear hl a; intro a hl
            refine wl (wl_skip hl rfl ⟨_, _, rfl, rfl, rfl⟩ ?_)
            clear hl a; intro a hl
            refine wl (wl_skip hl rfl ⟨_, _, rfl, rfl, rfl⟩ ?_)
            clear hl a; intro a hl
            refine wl (wl_skip hl rfl ⟨_, _, rfl, rfl, rfl⟩ ?_)
            clear hl a; intro a hl
            refine wl (wl_skip hl rfl ⟨_, _, rfl, rfl, rfl⟩ ?_)
            clear hl a; intro a hl
            refine wl (wl_skip hl rfl ⟨_, _, rfl, rfl, rfl⟩ ?_)
            clear hl a; intro a hl
            refine wl (wl_skip hl rfl ⟨_, _, rfl, rfl, rfl⟩ ?_)
            clear hl a; intro a hl
            refine wl (wl_skip hl rfl ⟨_, _, rfl, rfl, rfl⟩ ?_)
            clear hl a; intro a hl
            refine wl (wl_skip hl rfl ⟨_, _, rfl, rfl, rfl⟩ ?_)
            clear hl a; intro a hl
            refine wl (wl_val hl rfl trivial (r_pickF hl rfl rfl) ?_)
            clear hl a; intro a hl
            refine w_nil ?_
            have hl2 := hl.add (t := 3) (hl.add (t := 4) (hl.add (t := 5) (hl.add (t := 7) (hl.add (t := 10) (hl.add (t := 11) (hl.add (t := 12) (hl.add (t := 58) (hl.add (t := 59) (hl.add (t := 85) (hl.nil) rfl) rfl) rfl) rfl) rfl) rfl) rfl) rfl) rfl) rfl; clear hl; have hl := hl2; clear hl2
            refine then_normal ?_
            refine c_condF hl rfl ?_
            have hcb : ¬ candB H d i = true := by
              first
              | (unfold candB; rw [hr]; simp only [decide_eq_true_eq]; omega)
              | (intro q; have := cand_lt q; omega)
            have hN1 : ts = (List.range (i + 1)).filter (candB H d) := by rw [filt_succ, if_neg hcb, hts0]
            refine wp_skip ?_
            refine blk_normal ?_
            refine then_normal ?_
            refine c_region ?_
            first | refine wl (wl_val hl rfl trivial (r_add hl rfl rfl (by simp only [Fits]; omega)) ?_) | refine wl (wl_val hl rfl trivial (r_addW hl rfl rfl) ?_)
            clear hl a; intro a hl
            refine wl (wl_val hl rfl trivial (r_move hl rfl) ?_)
            clear hl a; intro a hl
            refine w_nil ?_
            have hl2 := hl.add (t := 3) (hl.add (t := 4) (hl.add (t := 5) (hl.add (t := 7) (hl.add (t := 10) (hl.add (t := 11) (hl.add (t := 58) (hl.add (t := 59) (hl.nil) rfl) rfl) rfl) rfl) rfl) rfl) rfl) rfl; clear hl; have hl := hl2; clear hl2
            refine then_normal ?_
            first | refine ⟨⟨i + 1, ts ++ [i], rv2, E2⟩, (by simp only; omega), ⟨by simp only; omega, hN1, rowT1 hR2⟩, hl.addE (t := 59) (hl.addE (t := 3) (hl.addE (t := 4) (hl.addE (t := 5) (hl.addE (t := 7) (hl.addE (t := 10) (hl.addE (t := 11) (hl.addE (t := 58) (hl.nil) rfl (by first | rfl | exact congrArg (Value.int .i64) (i_succ i))) rfl (by first | rfl | exact congrArg (Value.int .i64) (i_succ i))) rfl (by first | rfl | exact congrArg (Value.int .i64) (i_succ i))) rfl (by first | rfl | exact congrArg (Value.int .i64) (i_succ i))) rfl (by first | rfl | exact congrArg (Value.int .i64) (i_succ i))) rfl (by first | rfl | exact congrArg (Value.int .i64) (i_succ i))) rfl (by first | rfl | exact congrArg (Value.int .i64) (i_succ i))) rfl (by first | rfl | exact congrArg (Value.int .i64) (i_succ i)), hh.keep (by repeat (first | exact keeps_nil | apply keeps_cons (by repeat (first | exact find_head | apply find_tail)) (by first  | rfl) | exact keeps_self | exact keeps_left | exact keeps_right | exact keeps_swap | apply keeps_mv))⟩ | refine ⟨⟨i + 1, ts, tv, E⟩, (by simp only; omega), ⟨by simp only; omega, hN1, hR⟩, hl.addE (t := 59) (hl.addE (t := 3) (hl.addE (t := 4) (hl.addE (t := 5) (hl.addE (t := 7) (hl.addE (t := 10) (hl.addE (t := 11) (hl.addE (t := 58) (hl.nil) rfl (by first | rfl | exact congrArg (Value.int .i64) (i_succ i))) rfl (by first | rfl | exact congrArg (Value.int .i64) (i_succ i))) rfl (by first | rfl | exact congrArg (Value.int .i64) (i_succ i))) rfl (by first | rfl | exact congrArg (Value.int .i64) (i_succ i))) rfl (by first | rfl | exact congrArg (Value.int .i64) (i_succ i))) rfl (by first | rfl | exact congrArg (Value.int .i64) (i_succ i))) rfl (by first | rfl | exact congrArg (Value.int .i64) (i_succ i))) rfl (by first | rfl | exact congrArg (Value.int .i64) (i_succ i)), hh.keep (by repeat (first | exact keeps_nil | apply keeps_cons (by repeat (first | exact find_head | apply find_tail)) (by first  | rfl) | exact keeps_self | exact keeps_left | exact keeps_right | exact keeps_swap | apply keeps_mv))⟩
        · intro hc4
          try simp only [decide_eq_true_eq, decide_eq_false_iff_not, Bool.not_eq_true', Bool.not_eq_false', Bool.not_eq_true, Bool.not_eq_false, Bool.and_eq_true, Bool.or_eq_true, Bool.and_eq_false_iff, Bool.or_eq_false_iff, Bool.not_not, ne_eq, Int.not_lt, Int.not_le, Decidable.not_not, beq_iff_eq, bne_iff_ne] at hc4
          have hi66 : i = 6 := by omega
          subst hi66
          have hts : ∀ t, t ∈ ts → t < 6 ∧ d t < (H t).length ∧ candB H d t = true := fun t ht => by
            rw [hts0, List.mem_filter, List.mem_range] at ht
            exact ⟨ht.1, cand_lt ht.2, ht.2⟩
          have htl : ts.length ≤ 12 := by
            rw [hts0]
            have := List.length_filter_le (candB H d) (List.range 6)
            rw [List.length_range] at this
            omega
          refine wp_exit ?_
          refine then_exit ?_
          refine then_exit ?_
          refine blk_exit ?_
          refine then_normal ?_
          refine c_seq ?_
          refine c_region ?_
          first | refine wl (w_load hl hh rfl trivial one97 rfl (by repeat (first | exact find_head | apply find_tail)) (by first | exact hqt | exact hs9 | exact hd9 | rfl) ?_) | refine wl (w_loadR hl hh rfl trivial one97 rfl hsb hsbD hs9 ?_) | refine wl (w_loadR hl hh rfl trivial one97 rfl hm9 hD9 hr8 ?_) | refine wl (w_loadR hl hh rfl trivial one97 rfl hm9 hD9 hr7 ?_) | refine wl (w_loadR hl hh rfl trivial one97 rfl hsb hsbD hs6 ?_)
          clear hl a; intro a hl
          refine wl (wl_val hl rfl trivial (r_makeInterface hl rfl conc97) ?_)
          clear hl a; intro a hl
          refine wl (wl_val hl rfl trivial (r_makeFunc hl rfl) ?_)
          clear hl a; intro a hl
          refine wl (w_call hl hh rfl trivial rfl cal29 rfl (sortT_row2 (mv := .map (some mb)) hHR ts (fun t ht => ⟨(hts t ht).1, (hts t ht).2.1⟩) htl tv E hR k3 k4 k11 sb) (by repeat (first | exact keeps_nil | apply keeps_cons (by repeat (first | exact find_head | apply find_tail)) (by first  | rfl) | exact keeps_self | exact keeps_left | exact keeps_right | exact keeps_swap | apply keeps_mv)) ⟨(hh.frm.block sb (Array.getElem?_eq_some_iff.1 hsb).1 hsbD).trans hsb, fun t ht => mem_keepD hh (hES t ht) (fun x hx => by simp; exact hESm t ht x hx)⟩ ?_)
          clear hl hh a w; intro vc Fc a w hR hl hh
          obtain ⟨rfl, ts2, E3, hp2, hR3, rfl⟩ := hR
          try simp only [List.cons_append, List.nil_append] at hh
          obtain ⟨p8, c8, rfl⟩ := row_val hR3
          replace hh := has_tailA (A := [_, _, _]) hh
          simp only [List.cons_append, List.nil_append] at hh
          have hts2 : ∀ t, t ∈ ts2 → t < 6 ∧ d t < (H t).length ∧ candB H d t = true := fun t ht => hts t (hp2.mem_iff.1 ht)
          have htl2 : ts2.length ≤ 12 := by rw [hp2.length_eq]; exact htl
          refine w_nil ?_
          have hl2 := hl.add (t := 3) (hl.add (t := 4) (hl.add (t := 5) (hl.add (t := 10) (hl.add (t := 11) (hl.nil) rfl) rfl) rfl) rfl) rfl; clear hl; have hl := hl2; clear hl2
          refine then_normal ?_
          refine c_seq ?_
          refine c_seq ?_
          refine c_region ?_
          first | refine wl (w_load hl hh rfl trivial one97 rfl (by repeat (first | exact find_head | apply find_tail)) (by first | exact hqt | exact hs9 | exact hd9 | rfl) ?_) | refine wl (w_loadR hl hh rfl trivial one97 rfl hsb hsbD hs9 ?_) | refine wl (w_loadR hl hh rfl trivial one97 rfl hm9 hD9 hr8 ?_) | refine wl (w_loadR hl hh rfl trivial one97 rfl hm9 hD9 hr7 ?_) | refine wl (w_loadR hl hh rfl trivial one97 rfl hsb hsbD hs6 ?_)
          clear hl a; intro a hl
          refine wl (wl_val hl rfl trivial (r_lenS hl rfl slc97) ?_)
          clear hl a; intro a hl
          refine wl (wl_val hl rfl trivial (r_move hl rfl) ?_)
          clear hl a; intro a hl
          refine w_nil ?_
          have hl2 := hl.add (t := 3) (hl.add (t := 4) (hl.add (t := 5) (hl.add (t := 10) (hl.add (t := 95) (hl.add (t := 96) (hl.add (t := 97) (hl.nil) rfl) rfl) rfl) rfl) rfl) rfl) rfl; clear hl; have hl := hl2; clear hl2
          refine then_normal ?_
          refine wp_block ?_
          obtain ⟨KS2, hKS2, hk⟩ := (hl.add (t := 3) (hl.add (t := 4) (hl.add (t := 5) (hl.add (t := 10) (hl.add (t := 95) (hl.add (t := 96) (hl.nil) rfl) rfl) rfl) rfl) rfl) rfl).name
          obtain ⟨HS2, hHS2, hh2⟩ := hh.nameT (A := [(mb, MO kStr l0)]) (U := E3) (keeps_cons (b := mb) (o' := MO kStr l0) (by repeat (first | exact find_head | apply find_tail)) (by first | rfl) ((by repeat (first | exact keeps_nil | exact keeps_self | exact keeps_swap | apply keeps_mv))))
          refine c_loop (α := LSt) (fun s => ts2.length - s.i) (fun s a w => (s.i ≤ ts2.length ∧ FailOk k H s.l ∧ ∀ t, t ∈ ts2.take s.i → Bad k H d A t) ∧ Sl 143 ([(97, .int .i64 (s.i : Int))] ++ KS2) a ∧ Has _ w0 ([(mb, MO kStr s.l)] ++ (HS2 ++ E3)) w) ⟨0, l0⟩ ⟨⟨Nat.zero_le _, hF0, fun t ht => by rw [List.take_zero] at ht; cases ht⟩, hl.addE (t := 97) (hk) rfl (by first | rfl), hh2⟩ ?_
          clear hk hh2 hl hh a w
          intro s a w hI
          obtain ⟨⟨hi, hF, hbad⟩, hl, hh⟩ := hI
          subst hKS2; subst hHS2
          simp only [List.cons_append, List.nil_append, List.append_nil] at hl hh
          obtain ⟨i, l⟩ := s
          simp only at hi hF hbad hl hh
          refine c_seq ?_
          refine c_region ?_
          refine wl (wl_val hl rfl trivial (r_lss hl rfl rfl) ?_)
          clear hl a; intro a hl
          refine w_nil ?_
          have hl2 := hl.add (t := 3) (hl.add (t := 4) (hl.add (t := 5) (hl.add (t := 10) (hl.add (t := 95) (hl.add (t := 96) (hl.add (t := 97) (hl.add (t := 98) (hl.nil) rfl) rfl) rfl) rfl) rfl) rfl) rfl) rfl; clear hl; have hl := hl2; clear hl2
          refine then_normal ?_
          refine c_seq ?_
          refine c_cond hl rfl ?_ ?_
          · intro hc6
            try simp only [decide_eq_true_eq, decide_eq_false_iff_not, Bool.not_eq_true', Bool.not_eq_false', Bool.not_eq_true, Bool.not_eq_false, Bool.and_eq_true, Bool.or_eq_true, Bool.and_eq_false_iff, Bool.or_eq_false_iff, Bool.not_not, ne_eq, Int.not_lt, Int.not_le, Decidable.not_not, beq_iff_eq, bne_iff_ne] at hc6
            obtain ⟨b8, junk8, rfl, hj8, hcc8, rfl⟩ := row_pos hR3 (by omega)
            try simp only [List.cons_append, List.nil_append] at hh
            obtain ⟨t, htt⟩ : ∃ t, ts2[i]? = some t := ⟨_, List.getElem?_eq_getElem (by omega)⟩
            have hqt := fl_cell (f := tc) (s := 1) tc_len (j := 0) htt rfl junk8
            rw [Nat.add_zero] at hqt
            have htm := hts2 t (List.mem_of_getElem? htt)
            have hi6 : t < 6 := htm.1
            have hdl := htm.2.1
            have hdt := hd2 t hi6
            obtain ⟨p9, c9, hsv9⟩ := row_val (hHR t hi6)
            have hs9 := svAt (mv := .map (some mb)) hi6 hsv9
            have hd9 := dAt d hi6
            obtain ⟨r, hr⟩ : ∃ r, (H t)[d t]? = some r := ⟨_, List.getElem?_eq_getElem (by omega)⟩
            have hrow9 := hHR t hi6
            rw [hsv9] at hrow9
            obtain ⟨b9, junk9, rfl, hj9, hcc9, hE9⟩ := row_pos hrow9 (by omega)
            have hm9 : w0.heap[b9]? = some (C (fl recL (H t) ++ junk9) 95) := hES t hi6 b9 _ (by rw [hE9]; exact List.mem_singleton.2 rfl)
            have hD9 : b9 ∉ List.map Prod.fst [(mb, MO kStr l0)] := by simp; exact hESm t hi6 _ (by rw [hE9]; exact List.mem_singleton.2 rfl)
            have hr8 := fl_cell recL_len hr (recL_8 _) junk9
            have hr7 := fl_cell recL_len hr (recL_7 _) junk9
            have hrec := fl_at recL_len hr junk9
            have hrm := List.mem_of_getElem? hr
            have hrk := hHk.rc t r hrm
            have hrs := hH.rsp t r hi6 hrm
            clear hr7 hr8
            obtain ⟨rck, rcv, rcp, rra, rrv, rrp, rret, riv, rfn⟩ := r
            rw [recL_mk] at hrec
            refine wp_skip ?_
            refine then_normal ?_
            refine c_seq ?_
            refine wp_block ?_
            refine c_seq ?_
            refine c_region ?_
            refine wl (wl_val hl rfl trivial (r_indexS hl rfl rfl slc97 (by omega) (by omega) (by first | (simp only [Int.reduceToNat]; rfl) | exact toNat_add1 _ | exact toNat_add2 _ _ | exact toNat_emod _ _ | exact Int.toNat_natCast _ | rfl)) ?_)
            clear hl a; intro a hl
            first | refine wl (w_load hl hh rfl trivial one3 rfl (by repeat (first | exact find_head | apply find_tail)) (by first | exact hqt | exact hs9 | exact hd9 | rfl) ?_) | refine wl (w_loadR hl hh rfl trivial one3 rfl hsb hsbD hs9 ?_) | refine wl (w_loadR hl hh rfl trivial one3 rfl hm9 hD9 hr8 ?_) | refine wl (w_loadR hl hh rfl trivial one3 rfl hm9 hD9 hr7 ?_) | refine wl (w_loadR hl hh rfl trivial one3 rfl hsb hsbD hs6 ?_)
            clear hl a; intro a hl
            refine wl (wl_val hl rfl trivial (r_assign hl rfl) ?_)
            clear hl a; intro a hl
            refine w_nil ?_
            have hl2 := hl.add (t := 3) (hl.add (t := 4) (hl.add (t := 5) (hl.add (t := 10) (hl.add (t := 15) (hl.add (t := 95) (hl.add (t := 96) (hl.add (t := 97) (hl.nil) rfl) rfl) rfl) rfl) rfl) rfl) rfl) rfl; clear hl; have hl := hl2; clear hl2
            refine then_normal ?_
            refine c_seq ?_
            refine c_draw [(k3, C [.pointer (some ⟨sb, 0, none⟩)] 93), (k4, C (arrL 6 (fun t => .int .i64 ((d t : Nat) : Int))) 49), (sb, C (arrL 6 sv ++ [.map (some mb)]) 47), (b9, C (fl recL (H t) ++ junk9) 95)] [12] mixed hh ?_
            clear hh w; intro w hh
            have hM : Mem [(k3, C [.pointer (some ⟨sb, 0, none⟩)] 93), (k4, C (arrL 6 (fun t => .int .i64 ((d t : Nat) : Int))) 49), (sb, C (arrL 6 sv ++ [.map (some mb)]) 47), (b9, C (fl recL (H t) ++ junk9) 95)] w := (Mem.cons hh.mem (by (repeat (first | exact find_head | apply find_tail)); done) (Mem.cons hh.mem (by (repeat (first | exact find_head | apply find_tail)); done) (Mem.consR hh hsb hsbD (Mem.consR hh hm9 hD9 Mem.nil))))
            refine d_take (i := 0) hl rfl (by kernel_rfl) (by kernel_rfl) (by kernel_rfl) (by kernel_rfl) (by kernel_rfl) rfl trivial (fun _ _ _ h => h) hM (fun w hC => r_loadC hl rfl one93 hC (by repeat (first | exact find_head | apply find_tail)) (by first | exact hqt | exact hs9 | exact hd9 | rfl)) rfl ?_
            clear hl a; intro a hl
            refine d_take (i := 1) hl rfl (by kernel_rfl) (by kernel_rfl) (by kernel_rfl) (by kernel_rfl) (by kernel_rfl) rfl trivial (fun _ _ _ h => h) hM (fun w hC => r_move hl rfl) rfl ?_
            clear hl a; intro a hl
            refine d_take (i := 2) hl rfl (by kernel_rfl) (by kernel_rfl) (by kernel_rfl) (by kernel_rfl) (by kernel_rfl) rfl trivial (fun _ _ _ h => h) hM (fun w hC => r_nilCheck hl rfl) rfl ?_
            clear hl a; intro a hl
            refine d_take (i := 3) hl rfl (by kernel_rfl) (by kernel_rfl) (by kernel_rfl) (by kernel_rfl) (by kernel_rfl) rfl trivial (fun _ _ _ h => h) hM (fun w hC => r_field hl rfl fld47_0) rfl ?_
            clear hl a; intro a hl
            refine d_take (i := 4) hl rfl (by kernel_rfl) (by kernel_rfl) (by kernel_rfl) (by kernel_rfl) (by kernel_rfl) rfl trivial (fun _ _ _ h => h) hM (fun w hC => r_indexA hl rfl rfl arr29 (by omega) (by omega) (by first | (simp only [Int.reduceToNat]; rfl) | exact toNat_add1 _ | exact toNat_add2 _ _ | exact toNat_emod _ _ | exact Int.toNat_natCast _ | rfl)) rfl ?_
            clear hl a; intro a hl
            refine d_take (i := 5) hl rfl (by kernel_rfl) (by kernel_rfl) (by kernel_rfl) (by kernel_rfl) (by kernel_rfl) rfl trivial (fun _ _ _ h => h) hM (fun w hC => r_loadC hl rfl one27 hC (by repeat (first | exact find_head | apply find_tail)) (by first | exact hqt | exact hs9 | exact hd9 | rfl)) rfl ?_
            clear hl a; intro a hl
            refine d_take (i := 6) hl rfl (by kernel_rfl) (by kernel_rfl) (by kernel_rfl) (by kernel_rfl) (by kernel_rfl) rfl trivial (fun _ _ _ h => h) hM (fun w hC => r_move hl rfl) rfl ?_
            clear hl a; intro a hl
            refine d_take (i := 7) hl rfl (by kernel_rfl) (by kernel_rfl) (by kernel_rfl) (by kernel_rfl) (by kernel_rfl) rfl trivial (fun _ _ _ h => h) hM (fun w hC => r_indexA hl rfl rfl arr49 (by omega) (by omega) (by first | (simp only [Int.reduceToNat]; rfl) | exact toNat_add1 _ | exact toNat_add2 _ _ | exact toNat_emod _ _ | exact Int.toNat_natCast _ | rfl)) rfl ?_
            clear hl a; intro a hl
            refine d_take (i := 8) hl rfl (by kernel_rfl) (by kernel_rfl) (by kernel_rfl) (by kernel_rfl) (by kernel_rfl) rfl trivial (fun _ _ _ h => h) hM (fun w hC => r_loadC hl rfl one3 hC (by repeat (first | exact find_head | apply find_tail)) (by exact dAt d hi6)) rfl ?_
            clear hl a; intro a hl
            refine d_take (i := 9) hl rfl (by kernel_rfl) (by kernel_rfl) (by kernel_rfl) (by kernel_rfl) (by kernel_rfl) rfl trivial (fun _ _ _ h => h) hM (fun w hC => r_indexS hl rfl rfl slc27 (by omega) (by omega) (by first | (simp only [Int.reduceToNat]; rfl) | exact toNat_add1 _ | exact toNat_add2 _ _ | exact toNat_emod _ _ | exact Int.toNat_natCast _ | rfl)) rfl ?_
            clear hl a; intro a hl
            refine d_take (i := 10) hl rfl (by kernel_rfl) (by kernel_rfl) (by kernel_rfl) (by kernel_rfl) (by kernel_rfl) rfl trivial (fun _ _ _ h => h) hM (fun w hC => r_loadCA hl rfl agg95 hC (by repeat (first | exact find_head | apply find_tail)) (by first | exact hrec | (simp only [List.getElem?_cons_zero, List.getElem?_cons_succ, Value.cells, List.take_zero, List.take_succ_cons, List.take_nil, List.drop_zero, List.drop_succ_cons, List.drop_nil, List.length_cons, List.length_nil, List.cons_append, List.nil_append, List.append_nil, Nat.zero_add, Nat.add_zero, Nat.reduceAdd, Nat.reduceBEq, Nat.reduceEqDiff, Nat.ble, BEq.rfl, Bool.and_true, Bool.and_self, cond_true, beq_self_eq_true]; rfl)) (by first | rfl | (simp; done))) rfl ?_
            clear hl a; intro a hl
            refine d_one (i := 11) (by kernel_rfl) rfl ?_
            try clear hM
            refine id (w_alloc hl hh rfl trivial zero95 rfl ?_)
            clear hl hh a w; intro k16 a w hl hh
            have hM : Mem [(k3, C [.pointer (some ⟨sb, 0, none⟩)] 93), (k4, C (arrL 6 (fun t => .int .i64 ((d t : Nat) : Int))) 49), (sb, C (arrL 6 sv ++ [.map (some mb)]) 47), (b9, C (fl recL (H t) ++ junk9) 95)] w := (Mem.cons hh.mem (by (repeat (first | exact find_head | apply find_tail)); done) (Mem.cons hh.mem (by (repeat (first | exact find_head | apply find_tail)); done) (Mem.consR hh hsb hsbD (Mem.consR hh hm9 hD9 Mem.nil))))
            refine d_step (fun _ => hM) ?_
            refine d_one (i := 12) (by kernel_rfl) rfl ?_
            try clear hM
            refine id (w_storeA hl hh trivial agg95 rfl rfl (by repeat (first | exact find_head | apply find_tail)) (by first | rfl | (simp; done) | exact hrec) (by first | (simp; done) | (simp; omega)) (by first | rfl | (simp; done) | exact hx1 | assumption) (by first | (simp only [setL, List.getElem?_cons_zero, List.getElem?_cons_succ, Value.cells, List.take_zero, List.take_succ_cons, List.take_nil, List.drop_zero, List.drop_succ_cons, List.drop_nil, List.length_cons, List.length_nil, List.cons_append, List.nil_append, List.append_nil, Nat.zero_add, Nat.add_zero, Nat.reduceAdd, Nat.reduceBEq, Nat.reduceEqDiff, Nat.ble, BEq.rfl, Bool.and_true, Bool.and_self, cond_true, beq_self_eq_true]; rfl)) ?_)
            clear hh w; intro w hh
            refine d_step (fun h => absurd h (by decide)) ?_
            refine d_done (by kernel_rfl) ?_
            try clear hM
            have hl2 := hl.add (t := 3) (hl.add (t := 4) (hl.add (t := 5) (hl.add (t := 10) (hl.add (t := 15) (hl.add (t := 16) (hl.add (t := 95) (hl.add (t := 96) (hl.add (t := 97) (hl.nil) rfl) rfl) rfl) rfl) rfl) rfl) rfl) rfl) rfl; clear hl; have hl := hl2; clear hl2
            refine then_normal ?_
            refine c_seq ?_
            refine c_region ?_
            refine wl (w_loadA hl hh rfl trivial agg53 rfl (by repeat (first | exact find_head | apply find_tail)) (by first | exact hrec | (simp only [List.getElem?_cons_zero, List.getElem?_cons_succ, Value.cells, List.take_zero, List.take_succ_cons, List.take_nil, List.drop_zero, List.drop_succ_cons, List.drop_nil, List.length_cons, List.length_nil, List.cons_append, List.nil_append, List.append_nil, Nat.zero_add, Nat.add_zero, Nat.reduceAdd, Nat.reduceBEq, Nat.reduceEqDiff, Nat.ble, BEq.rfl, Bool.and_true, Bool.and_self, cond_true, beq_self_eq_true]; rfl)) (by first | rfl | (simp; done)) ?_)
            clear hl a; intro a hl
            refine wl (wl_val hl rfl trivial (r_field hl rfl fld95_0) ?_)
            clear hl a; intro a hl
            refine wl (w_loadA hl hh rfl trivial agg60 rfl (by repeat (first | exact find_head | apply find_tail)) (by first | exact hrec | (simp only [List.getElem?_cons_zero, List.getElem?_cons_succ, Value.cells, List.take_zero, List.take_succ_cons, List.take_nil, List.drop_zero, List.drop_succ_cons, List.drop_nil, List.length_cons, List.length_nil, List.cons_append, List.nil_append, List.append_nil, Nat.zero_add, Nat.add_zero, Nat.reduceAdd, Nat.reduceBEq, Nat.reduceEqDiff, Nat.ble, BEq.rfl, Bool.and_true, Bool.and_self, cond_true, beq_self_eq_true]; rfl)) (by first | rfl | (simp; done)) ?_)
            clear hl a; intro a hl
            refine wl (w_call hl hh rfl trivial rfl cal31 rfl (mStep_spec hS (by omega) hrk.ck hrk.cv hrk.cp hrk.cp0) (by repeat (first | exact keeps_nil | apply keeps_cons (by repeat (first | exact find_head | apply find_tail)) (by first  | rfl) | exact keeps_self | exact keeps_left | exact keeps_right | exact keeps_swap | apply keeps_mv)) (mem_keepD hh hZ0 hZD) ?_)
            clear hl hh a w; intro vc Fc a w hR hl hh
            try simp only [List.cons_append, List.nil_append] at hh
            obtain ⟨v2, hv2, hS2⟩ := hR
            obtain ⟨hrg1, hrg2⟩ := st_rng (k := k) (ck := rck) (cv := rcv) (cp := rcp) hSO.ok.rng hrk.cv hrk.cp
            rcases hst : stA k A rck rcv rcp with ⟨A2, sa, sw, sp⟩
            rw [hst] at hv2 hS2 hrg2
            obtain ⟨y1, y2, y3, rfl, hy1⟩ := hS2.three
            unfold rsV at hv2
            subst hv2
            have hfa := hrg2.a; have hfv := hrg2.v; have hfp := hrg2.p
            unfold InR at hfv hfp
            simp only at hfa hfv hfp
            replace hh := hh.comm
            simp only [List.cons_append, List.nil_append] at hh
            refine wl (wl_val hl rfl trivial (r_move hl rfl) ?_)
            clear hl a; intro a hl
            refine wl (wl_val hl rfl trivial (r_extract hl rfl (by simp only [List.getElem?_toArray, List.getElem?_cons_zero, List.getElem?_cons_succ]; rfl)) ?_)
            clear hl a; intro a hl
            refine wl (wl_val hl rfl trivial (r_extract hl rfl (by simp only [List.getElem?_toArray, List.getElem?_cons_zero, List.getElem?_cons_succ]; rfl)) ?_)
            clear hl a; intro a hl
            refine wl (w_alloc hl hh rfl trivial zero39 rfl ?_)
            clear hl hh a w; intro k17 a w hl hh
            refine wl (w_alloc hl hh rfl trivial zero53 rfl ?_)
            clear hl hh a w; intro k18 a w hl hh
            refine wl (w_storeA hl hh trivial agg39 rfl rfl (by repeat (first | exact find_head | apply find_tail)) (by first | rfl | (simp; done) | exact hrec) (by first | (simp; done) | (simp; omega)) (by first | rfl | (simp; done) | exact hx1 | assumption) (by first | (simp only [setL, List.getElem?_cons_zero, List.getElem?_cons_succ, Value.cells, List.take_zero, List.take_succ_cons, List.take_nil, List.drop_zero, List.drop_succ_cons, List.drop_nil, List.length_cons, List.length_nil, List.cons_append, List.nil_append, List.append_nil, Nat.zero_add, Nat.add_zero, Nat.reduceAdd, Nat.reduceBEq, Nat.reduceEqDiff, Nat.ble, BEq.rfl, Bool.and_true, Bool.and_self, cond_true, beq_self_eq_true]; rfl)) ?_)
            clear hh w; intro w hh
            refine wl (w_storeA hl hh trivial agg53 rfl rfl (by repeat (first | exact find_head | apply find_tail)) (by first | rfl | (simp; done) | exact hrec) (by first | (simp; done) | (simp; omega)) (by first | rfl | (simp; done) | exact hx1 | assumption) (by first | (simp only [setL, List.getElem?_cons_zero, List.getElem?_cons_succ, Value.cells, List.take_zero, List.take_succ_cons, List.take_nil, List.drop_zero, List.drop_succ_cons, List.drop_nil, List.length_cons, List.length_nil, List.cons_append, List.nil_append, List.append_nil, Nat.zero_add, Nat.add_zero, Nat.reduceAdd, Nat.reduceBEq, Nat.reduceEqDiff, Nat.ble, BEq.rfl, Bool.and_true, Bool.and_self, cond_true, beq_self_eq_true]; rfl)) ?_)
            clear hh w; intro w hh
            refine w_nil ?_
            have hl2 := hl.add (t := 3) (hl.add (t := 4) (hl.add (t := 5) (hl.add (t := 10) (hl.add (t := 15) (hl.add (t := 16) (hl.add (t := 17) (hl.add (t := 18) (hl.add (t := 95) (hl.add (t := 96) (hl.add (t := 97) (hl.nil) rfl) rfl) rfl) rfl) rfl) rfl) rfl) rfl) rfl) rfl) rfl; clear hl; have hl := hl2; clear hl2
            refine then_normal ?_
            refine c_seq ?_
            refine c_seq ?_
            refine c_region ?_
            refine wl (wl_val hl rfl trivial (r_field hl rfl fld95_2) ?_)
            clear hl a; intro a hl
            first | refine wl (w_load hl hh rfl trivial one4 rfl (by repeat (first | exact find_head | apply find_tail)) (by first | exact hqt | exact hs9 | exact hd9 | rfl) ?_) | refine wl (w_loadR hl hh rfl trivial one4 rfl hsb hsbD hs9 ?_) | refine wl (w_loadR hl hh rfl trivial one4 rfl hm9 hD9 hr8 ?_) | refine wl (w_loadR hl hh rfl trivial one4 rfl hm9 hD9 hr7 ?_) | refine wl (w_loadR hl hh rfl trivial one4 rfl hsb hsbD hs6 ?_)
            clear hl a; intro a hl
            refine wl (wl_val hl rfl trivial (r_move hl rfl) ?_)
            clear hl a; intro a hl
            refine sl_split (t := 121) hl rfl ?_ ?_
            · intro hg2; clear hl; intro hl
              try simp only [decide_eq_true_eq, decide_eq_false_iff_not, Bool.not_eq_true', Bool.not_eq_false', Bool.not_eq_true, Bool.not_eq_false, Bool.and_eq_true, Bool.or_eq_true, Bool.and_eq_false_iff, Bool.or_eq_false_iff, Bool.not_not, ne_eq, Int.not_lt, Int.not_le, Decidable.not_not, beq_iff_eq, bne_iff_ne] at hg2
              refine wl (w_loadA hl hh rfl ⟨_, _, rfl, rfl, rfl⟩ agg39 rfl (by repeat (first | exact find_head | apply find_tail)) (by first | exact hrec | (simp only [List.getElem?_cons_zero, List.getElem?_cons_succ, Value.cells, List.take_zero, List.take_succ_cons, List.take_nil, List.drop_zero, List.drop_succ_cons, List.drop_nil, List.length_cons, List.length_nil, List.cons_append, List.nil_append, List.append_nil, Nat.zero_add, Nat.add_zero, Nat.reduceAdd, Nat.reduceBEq, Nat.reduceEqDiff, Nat.ble, BEq.rfl, Bool.and_true, Bool.and_self, cond_true, beq_self_eq_true]; rfl)) (by first | rfl | (simp; done)) ?_)
              clear hl a; intro a hl
              have hrs9 := hrs hg2
              have hfa9 := hrs9.a; have hfv9 := hrs9.v; have hfp9 := hrs9.p
              unfold InR at hfv9 hfp9
              simp only at hfa9 hfv9 hfp9
              refine wl (wl_val hl rfl ⟨_, _, rfl, rfl, rfl⟩ (r_field hl rfl fld95_1) ?_)
              clear hl a; intro a hl
              refine wl (w_loadA hl hh rfl ⟨_, _, rfl, rfl, rfl⟩ agg39 rfl (by repeat (first | exact find_head | apply find_tail)) (by first | exact hrec | (simp only [List.getElem?_cons_zero, List.getElem?_cons_succ, Value.cells, List.take_zero, List.take_succ_cons, List.take_nil, List.drop_zero, List.drop_succ_cons, List.drop_nil, List.length_cons, List.length_nil, List.cons_append, List.nil_append, List.append_nil, Nat.zero_add, Nat.add_zero, Nat.reduceAdd, Nat.reduceBEq, Nat.reduceEqDiff, Nat.ble, BEq.rfl, Bool.and_true, Bool.and_self, cond_true, beq_self_eq_true]; rfl)) (by first | rfl | (simp; done)) ?_)
              clear hl a; intro a hl
              refine wl (wl_val hl rfl ⟨_, _, rfl, rfl, rfl⟩ (r_neqA hl rfl rfl eqf39 shp39 (by simp only [unlitL, unlit]; rfl) (by simp only [unlitL, unlit]; rfl) (by first | exact ⟨trivial⟩ | (refine ⟨?_⟩; simp [LitsOk, litOk, Fits]; done) | (refine ⟨?_⟩; simp [LitsOk, litOk, Fits]; omega)) (by first | exact ⟨trivial⟩ | (refine ⟨?_⟩; simp [LitsOk, litOk, Fits]; done) | (refine ⟨?_⟩; simp [LitsOk, litOk, Fits]; omega))) ?_)
              clear hl a; intro a hl
              refine wl (wl_val hl rfl trivial (r_pickT hl rfl rfl) ?_)
              clear hl a; intro a hl
              refine w_nil ?_
              have hl2 := hl.add (t := 3) (hl.add (t := 4) (hl.add (t := 5) (hl.add (t := 10) (hl.add (t := 15) (hl.add (t := 18) (hl.add (t := 95) (hl.add (t := 96) (hl.add (t := 97) (hl.add (t := 126) (hl.nil) rfl) rfl) rfl) rfl) rfl) rfl) rfl) rfl) rfl) rfl; clear hl; have hl := hl2; clear hl2
              refine then_normal ?_
              refine c_cond hl rfl ?_ ?_
              · intro hc7
                try simp only [decide_eq_true_eq, decide_eq_false_iff_not, Bool.not_eq_true', Bool.not_eq_false', Bool.not_eq_true, Bool.not_eq_false, Bool.and_eq_true, Bool.or_eq_true, Bool.and_eq_false_iff, Bool.or_eq_false_iff, Bool.not_not, ne_eq, Int.not_lt, Int.not_le, Decidable.not_not, beq_iff_eq, bne_iff_ne] at hc7
                have hbt : Bad k H d A t := fun r9 hr9 => by
                  rw [hr] at hr9; injection hr9 with hr9; subst hr9
                  refine .inl ⟨hg2, ?_⟩
                  rw [hst]
                  intro q
                  injection q with q1 q2 q3
                  subst q1; subst q2; subst q3
                  simp [eqLits, litBeq] at hc7
                refine wp_exit ?_
                refine then_exit ?_
                refine blk_exit ?_
                refine then_normal ?_
                refine c_region ?_
                first | refine wl (wl_val hl rfl trivial (r_add hl rfl rfl (by simp only [Fits]; omega)) ?_) | refine wl (wl_val hl rfl trivial (r_addW hl rfl rfl) ?_)
                clear hl a; intro a hl
                refine wl (wl_val hl rfl trivial (r_move hl rfl) ?_)
                clear hl a; intro a hl
                refine w_nil ?_
                have hl2 := hl.add (t := 3) (hl.add (t := 4) (hl.add (t := 5) (hl.add (t := 10) (hl.add (t := 95) (hl.add (t := 96) (hl.add (t := 97) (hl.nil) rfl) rfl) rfl) rfl) rfl) rfl) rfl; clear hl; have hl := hl2; clear hl2
                refine then_normal ?_
                first | refine ⟨⟨i + 1, l⟩, (by simp only; omega), ⟨by simp only; omega, hF, bad_snoc htt hbad hbt⟩, hl.addE (t := 97) (hl.addE (t := 3) (hl.addE (t := 4) (hl.addE (t := 5) (hl.addE (t := 10) (hl.addE (t := 95) (hl.addE (t := 96) (hl.nil) rfl (by first | rfl | exact congrArg (Value.int .i64) (i_succ i))) rfl (by first | rfl | exact congrArg (Value.int .i64) (i_succ i))) rfl (by first | rfl | exact congrArg (Value.int .i64) (i_succ i))) rfl (by first | rfl | exact congrArg (Value.int .i64) (i_succ i))) rfl (by first | rfl | exact congrArg (Value.int .i64) (i_succ i))) rfl (by first | rfl | exact congrArg (Value.int .i64) (i_succ i))) rfl (by first | rfl | exact congrArg (Value.int .i64) (i_succ i)), hh.keep (by repeat (first | exact keeps_nil | apply keeps_cons (by repeat (first | exact find_head | apply find_tail)) (by first  | rfl) | exact keeps_self | exact keeps_left | exact keeps_right | exact keeps_swap | apply keeps_mv))⟩ | refine ⟨⟨i + 1, l7⟩, (by simp only; omega), ⟨by simp only; omega, hF7, bad_snoc htt hbad hbt8⟩, hl.addE (t := 97) (hl.addE (t := 3) (hl.addE (t := 4) (hl.addE (t := 5) (hl.addE (t := 10) (hl.addE (t := 95) (hl.addE (t := 96) (hl.nil) rfl (by first | rfl | exact congrArg (Value.int .i64) (i_succ i))) rfl (by first | rfl | exact congrArg (Value.int .i64) (i_succ i))) rfl (by first | rfl | exact congrArg (Value.int .i64) (i_succ i))) rfl (by first | rfl | exact congrArg (Value.int .i64) (i_succ i))) rfl (by first | rfl | exact congrArg (Value.int .i64) (i_succ i))) rfl (by first | rfl | exact congrArg (Value.int .i64) (i_succ i))) rfl (by first | rfl | exact congrArg (Value.int .i64) (i_succ i)), hh.keep (by repeat (first | exact keeps_nil | apply keeps_cons (by repeat (first | exact find_head | apply find_tail)) (by first  | rfl) | exact keeps_self | exact keeps_left | exact keeps_right | exact keeps_swap | apply keeps_mv))⟩
              · intro hc7
                try simp only [decide_eq_true_eq, decide_eq_false_iff_not, Bool.not_eq_true', Bool.not_eq_false', Bool.not_eq_true, Bool.not_eq_false, Bool.and_eq_true, Bool.or_eq_true, Bool.and_eq_false_iff, Bool.or_eq_false_iff, Bool.not_not, ne_eq, Int.not_lt, Int.not_le, Decidable.not_not, beq_iff_eq, bne_iff_ne] at hc7
                refine wp_skip ?_
                refine then_normal ?_
                refine c_seq ?_
                refine c_region ?_
                refine wl (w_loadA hl hh rfl trivial agg49 rfl (by repeat (first | exact find_head | apply find_tail)) (by exact take6 _) (by rw [arrL_length]) ?_)
                clear hl a; intro a hl
                refine wl (w_alloc hl hh rfl trivial zero49 rfl ?_)
                clear hl hh a w; intro k19 a w hl hh
                refine wl (w_storeA hl hh trivial agg49 rfl rfl (by repeat (first | exact find_head | apply find_tail)) (by rw [arrL_length]) (by simp) (by exact arrL_one6 d) (by exact set6d d) ?_)
                clear hh w; intro w hh
                refine w_nil ?_
                have hl2 := hl.add (t := 3) (hl.add (t := 4) (hl.add (t := 5) (hl.add (t := 10) (hl.add (t := 15) (hl.add (t := 18) (hl.add (t := 19) (hl.add (t := 95) (hl.add (t := 96) (hl.add (t := 97) (hl.nil) rfl) rfl) rfl) rfl) rfl) rfl) rfl) rfl) rfl) rfl; clear hl; have hl := hl2; clear hl2
                refine then_normal ?_
                refine c_seq ?_
                refine c_region ?_
                refine wl (wl_val hl rfl trivial (r_move hl rfl) ?_)
                clear hl a; intro a hl
                refine wl (wl_val hl rfl trivial (r_indexA hl rfl rfl arr49 (by omega) (by omega) (by first | (simp only [Int.reduceToNat]; rfl) | exact toNat_add1 _ | exact toNat_add2 _ _ | exact toNat_emod _ _ | exact Int.toNat_natCast _ | rfl)) ?_)
                clear hl a; intro a hl
                first | refine wl (w_load hl hh rfl trivial one3 rfl (by repeat (first | exact find_head | apply find_tail)) (by exact dAt d hi6) ?_) | refine wl (w_loadR hl hh rfl trivial one3 rfl hsb hsbD hs9 ?_) | refine wl (w_loadR hl hh rfl trivial one3 rfl hm9 hD9 hr8 ?_) | refine wl (w_loadR hl hh rfl trivial one3 rfl hm9 hD9 hr7 ?_) | refine wl (w_loadR hl hh rfl trivial one3 rfl hsb hsbD hs6 ?_)
                clear hl a; intro a hl
                first | refine wl (wl_val hl rfl trivial (r_add hl rfl rfl (by simp only [Fits]; omega)) ?_) | refine wl (wl_val hl rfl trivial (r_addW hl rfl rfl) ?_)
                clear hl a; intro a hl
                refine wl (wl_val hl rfl trivial (r_indexA hl rfl rfl arr49 (by omega) (by omega) (by first | (simp only [Int.reduceToNat]; rfl) | exact toNat_add1 _ | exact toNat_add2 _ _ | exact toNat_emod _ _ | exact Int.toNat_natCast _ | rfl)) ?_)
                clear hl a; intro a hl
                refine wl (w_store hl hh trivial one3 rfl rfl (by repeat (first | exact find_head | apply find_tail)) (by rw [arrL_length]; omega) (by first | rfl | assumption | (apply Row.one; assumption)) (by exact arr_store hi6) ?_)
                clear hh w; intro w hh
                refine w_nil ?_
                have hl2 := hl.add (t := 3) (hl.add (t := 4) (hl.add (t := 5) (hl.add (t := 10) (hl.add (t := 18) (hl.add (t := 19) (hl.add (t := 95) (hl.add (t := 96) (hl.add (t := 97) (hl.nil) rfl) rfl) rfl) rfl) rfl) rfl) rfl) rfl) rfl; clear hl; have hl := hl2; clear hl2
                rw [done_inc d t] at hh
                have hZF := zf_ne (mb := mb) (o := MO kStr l) (Fc := Fc) hh (by repeat (first | exact keeps_nil | apply keeps_cons (by repeat (first | exact find_head | apply find_tail)) (by first  | rfl) | exact keeps_self | exact keeps_left | exact keeps_right | exact keeps_swap | apply keeps_mv)) hZm
                refine then_normal ?_
                refine c_seq ?_
                refine c_region ?_
                first | refine wl (w_load hl hh rfl trivial one93 rfl (by repeat (first | exact find_head | apply find_tail)) (by first | exact hqt | exact hs9 | exact hd9 | rfl) ?_) | refine wl (w_loadR hl hh rfl trivial one93 rfl hsb hsbD hs9 ?_) | refine wl (w_loadR hl hh rfl trivial one93 rfl hm9 hD9 hr8 ?_) | refine wl (w_loadR hl hh rfl trivial one93 rfl hm9 hD9 hr7 ?_) | refine wl (w_loadR hl hh rfl trivial one93 rfl hsb hsbD hs6 ?_)
                clear hl a; intro a hl
                refine wl (w_loadA hl hh rfl trivial agg49 rfl (by repeat (first | exact find_head | apply find_tail)) (by exact take6 _) (by rw [arrL_length]) ?_)
                clear hl a; intro a hl
                refine wl (w_loadA hl hh rfl trivial agg53 rfl (by repeat (first | exact find_head | apply find_tail)) (by first | exact hrec | (simp only [List.getElem?_cons_zero, List.getElem?_cons_succ, Value.cells, List.take_zero, List.take_succ_cons, List.take_nil, List.drop_zero, List.drop_succ_cons, List.drop_nil, List.length_cons, List.length_nil, List.cons_append, List.nil_append, List.append_nil, Nat.zero_add, Nat.add_zero, Nat.reduceAdd, Nat.reduceBEq, Nat.reduceEqDiff, Nat.ble, BEq.rfl, Bool.and_true, Bool.and_self, cond_true, beq_self_eq_true]; rfl)) (by first | rfl | (simp; done)) ?_)
                clear hl a; intro a hl
                refine wl (w_call hl hh rfl trivial rfl cal15 rfl (ih (mu H (incF d t)) (by have := mu_inc hi6 hdl; omega) (incF d t) (N + 1) A2 (.agg ⟨[y1, y2, y3]⟩) (Z ++ Fc) l rfl (by have := mu_inc hi6 hdl; omega) (fun s hs => by unfold incF updF; split; have := hdN t hi6; omega; have := hdN s hs; omega) hS2 hF hZF) (by repeat (first | exact keeps_nil | apply keeps_cons (by repeat (first | exact find_head | apply find_tail)) (by first  | rfl) | exact keeps_self | exact keeps_left | exact keeps_right | exact keeps_swap | apply keeps_mv)) ⟨⟨(hh.frm.block sb (Array.getElem?_eq_some_iff.1 hsb).1 hsbD).trans hsb, fun t ht => mem_keepD hh (hES t ht) (fun x hx => by simp; exact hESm t ht x hx)⟩, zf_mem (mem_keepD hh hZ0 hZD) (by intro b o m; exact hh.mem b o (by simp [m]))⟩ ?_)
                clear hl hh a w; intro vc Fc a w hR hl hh
                obtain ⟨b7, l7, rfl, hb7, hF7, rfl⟩ := hR
                try simp only [List.cons_append, List.nil_append] at hh
                refine w_nil ?_
                have hl2 := hl.add (t := 3) (hl.add (t := 4) (hl.add (t := 5) (hl.add (t := 10) (hl.add (t := 95) (hl.add (t := 96) (hl.add (t := 97) (hl.add (t := 136) (hl.nil) rfl) rfl) rfl) rfl) rfl) rfl) rfl) rfl; clear hl; have hl := hl2; clear hl2
                refine then_normal ?_
                refine c_cond hl rfl ?_ ?_
                · intro hc8
                  try simp only [decide_eq_true_eq, decide_eq_false_iff_not, Bool.not_eq_true', Bool.not_eq_false', Bool.not_eq_true, Bool.not_eq_false, Bool.and_eq_true, Bool.or_eq_true, Bool.and_eq_false_iff, Bool.or_eq_false_iff, Bool.not_not, ne_eq, Int.not_lt, Int.not_le, Decidable.not_not, beq_iff_eq, bne_iff_ne] at hc8
                  refine c_seq ?_
                  refine c_region ?_
                  refine wl (wl_val hl rfl trivial (r_assign hl rfl) ?_)
                  clear hl a; intro a hl
                  refine w_nil ?_
                  have hl2 := hl.add (t := 6) (hl.nil) rfl; clear hl; have hl := hl2; clear hl2
                  refine then_normal ?_
                  refine wp_ret ?_
                  refine blk_ret ?_
                  refine then_ret ?_
                  refine then_ret ?_
                  refine blk_ret ?_
                  refine then_ret ?_
                  refine f_ret1 (F' := [(mb, MO kStr l7)]) hl hh rfl rfl (by repeat (first | exact keeps_nil | apply keeps_cons (by repeat (first | exact find_head | apply find_tail)) (by first  | rfl) | exact keeps_self | exact keeps_left | exact keeps_right | exact keeps_swap | apply keeps_mv)) ?_
                  exact ⟨true, l7, rfl, fun q => (by cases q), hF7, rfl⟩
                · intro hc8
                  try simp only [decide_eq_true_eq, decide_eq_false_iff_not, Bool.not_eq_true', Bool.not_eq_false', Bool.not_eq_true, Bool.not_eq_false, Bool.and_eq_true, Bool.or_eq_true, Bool.and_eq_false_iff, Bool.or_eq_false_iff, Bool.not_not, ne_eq, Int.not_lt, Int.not_le, Decidable.not_not, beq_iff_eq, bne_iff_ne] at hc8
                  have hbt8 : Bad k H d A t := fun r9 hr9 => by
                    rw [hr] at hr9; injection hr9 with hr9; subst hr9
                    refine .inr ?_
                    rw [hst]
                    exact hb7 hc8
                  refine wp_skip ?_
                  refine blk_normal ?_
                  refine then_normal ?_
                  refine c_region ?_
                  first | refine wl (wl_val hl rfl trivial (r_add hl rfl rfl (by simp only [Fits]; omega)) ?_) | refine wl (wl_val hl rfl trivial (r_addW hl rfl rfl) ?_)
                  clear hl a; intro a hl
                  refine wl (wl_val hl rfl trivial (r_move hl rfl) ?_)
                  clear hl a; intro a hl
                  refine w_nil ?_
                  have hl2 := hl.add (t := 3) (hl.add (t := 4) (hl.add (t := 5) (hl.add (t := 10) (hl.add (t := 95) (hl.add (t := 96) (hl.add (t := 97) (hl.nil) rfl) rfl) rfl) rfl) rfl) rfl) rfl; clear hl; have hl := hl2; clear hl2
                  refine then_normal ?_
                  first | refine ⟨⟨i + 1, l⟩, (by simp only; omega), ⟨by simp only; omega, hF, bad_snoc htt hbad hbt⟩, hl.addE (t := 97) (hl.addE (t := 3) (hl.addE (t := 4) (hl.addE (t := 5) (hl.addE (t := 10) (hl.addE (t := 95) (hl.addE (t := 96) (hl.nil) rfl (by first | rfl | exact congrArg (Value.int .i64) (i_succ i))) rfl (by first | rfl | exact congrArg (Value.int .i64) (i_succ i))) rfl (by first | rfl | exact congrArg (Value.int .i64) (i_succ i))) rfl (by first | rfl | exact congrArg (Value.int .i64) (i_succ i))) rfl (by first | rfl | exact congrArg (Value.int .i64) (i_succ i))) rfl (by first | rfl | exact congrArg (Value.int .i64) (i_succ i))) rfl (by first | rfl | exact congrArg (Value.int .i64) (i_succ i)), hh.keep (by repeat (first | exact keeps_nil | apply keeps_cons (by repeat (first | exact find_head | apply find_tail)) (by first  | rfl) | exact keeps_self | exact keeps_left | exact keeps_right | exact keeps_swap | apply keeps_mv))⟩ | refine ⟨⟨i + 1, l7⟩, (by simp only; omega), ⟨by simp only; omega, hF7, bad_snoc htt hbad hbt8⟩, hl.addE (t := 97) (hl.addE (t := 3) (hl.addE (t := 4) (hl.addE (t := 5) (hl.addE (t := 10) (hl.addE (t := 95) (hl.addE (t := 96) (hl.nil) rfl (by first | rfl | exact congrArg (Value.int .i64) (i_succ i))) rfl (by first | rfl | exact congrArg (Value.int .i64) (i_succ i))) rfl (by first | rfl | exact congrArg (Value.int .i64) (i_succ i))) rfl (by first | rfl | exact congrArg (Value.int .i64) (i_succ i))) rfl (by first | rfl | exact congrArg (Value.int .i64) (i_succ i))) rfl (by first | rfl | exact congrArg (Value.int .i64) (i_succ i))) rfl (by first | rfl | exact congrArg (Value.int .i64) (i_succ i)), hh.keep (by repeat (first | exact keeps_nil | apply keeps_cons (by repeat (first | exact find_head | apply find_tail)) (by first  | rfl) | exact keeps_self | exact keeps_left | exact keeps_right | exact keeps_swap | apply keeps_mv))⟩
            · intro hg2; clear hl; intro hl
              try simp only [decide_eq_true_eq, decide_eq_false_iff_not, Bool.not_eq_true', Bool.not_eq_false', Bool.not_eq_true, Bool.not_eq_false, Bool.and_eq_true, Bool.or_eq_true, Bool.and_eq_false_iff, Bool.or_eq_false_iff, Bool.not_not, ne_eq, Int.not_lt, Int.not_le, Decidable.not_not, beq_iff_eq, bne_iff_ne] at hg2
              refine wl (wl_skip hl rfl ⟨_, _, rfl, rfl, rfl⟩ ?_)
              clear hl a; intro a hl
              refine wl (wl_skip hl rfl ⟨_, _, rfl, rfl, rfl⟩ ?_)
              clear hl a; intro a hl
              refine wl (wl_skip hl rfl ⟨_, _, rfl, rfl, rfl⟩ ?_)
              clear hl a; intro a hl
              refine wl (wl_skip hl rfl ⟨_, _, rfl, rfl, rfl⟩ ?_)
              clear hl a; intro a hl
              refine wl (wl_val hl rfl trivial (r_pickF hl rfl rfl) ?_)
              clear hl a; intro a hl
              refine w_nil ?_
              have hl2 := hl.add (t := 3) (hl.add (t := 4) (hl.add (t := 5) (hl.add (t := 10) (hl.add (t := 15) (hl.add (t := 18) (hl.add (t := 95) (hl.add (t := 96) (hl.add (t := 97) (hl.add (t := 126) (hl.nil) rfl) rfl) rfl) rfl) rfl) rfl) rfl) rfl) rfl) rfl; clear hl; have hl := hl2; clear hl2
              refine then_normal ?_
              refine c_condF hl rfl ?_
              refine wp_skip ?_
              refine then_normal ?_
              refine c_seq ?_
              refine c_region ?_
              refine wl (w_loadA hl hh rfl trivial agg49 rfl (by repeat (first | exact find_head | apply find_tail)) (by exact take6 _) (by rw [arrL_length]) ?_)
              clear hl a; intro a hl
              refine wl (w_alloc hl hh rfl trivial zero49 rfl ?_)
              clear hl hh a w; intro k19 a w hl hh
              refine wl (w_storeA hl hh trivial agg49 rfl rfl (by repeat (first | exact find_head | apply find_tail)) (by rw [arrL_length]) (by simp) (by exact arrL_one6 d) (by exact set6d d) ?_)
              clear hh w; intro w hh
              refine w_nil ?_
              have hl2 := hl.add (t := 3) (hl.add (t := 4) (hl.add (t := 5) (hl.add (t := 10) (hl.add (t := 15) (hl.add (t := 18) (hl.add (t := 19) (hl.add (t := 95) (hl.add (t := 96) (hl.add (t := 97) (hl.nil) rfl) rfl) rfl) rfl) rfl) rfl) rfl) rfl) rfl) rfl; clear hl; have hl := hl2; clear hl2
              refine then_normal ?_
              refine c_seq ?_
              refine c_region ?_
              refine wl (wl_val hl rfl trivial (r_move hl rfl) ?_)
              clear hl a; intro a hl
              refine wl (wl_val hl rfl trivial (r_indexA hl rfl rfl arr49 (by omega) (by omega) (by first | (simp only [Int.reduceToNat]; rfl) | exact toNat_add1 _ | exact toNat_add2 _ _ | exact toNat_emod _ _ | exact Int.toNat_natCast _ | rfl)) ?_)
              clear hl a; intro a hl
              first | refine wl (w_load hl hh rfl trivial one3 rfl (by repeat (first | exact find_head | apply find_tail)) (by exact dAt d hi6) ?_) | refine wl (w_loadR hl hh rfl trivial one3 rfl hsb hsbD hs9 ?_) | refine wl (w_loadR hl hh rfl trivial one3 rfl hm9 hD9 hr8 ?_) | refine wl (w_loadR hl hh rfl trivial one3 rfl hm9 hD9 hr7 ?_) | refine wl (w_loadR hl hh rfl trivial one3 rfl hsb hsbD hs6 ?_)
              clear hl a; intro a hl
              first | refine wl (wl_val hl rfl trivial (r_add hl rfl rfl (by simp only [Fits]; omega)) ?_) | refine wl (wl_val hl rfl trivial (r_addW hl rfl rfl) ?_)
              clear hl a; intro a hl
              refine wl (wl_val hl rfl trivial (r_indexA hl rfl rfl arr49 (by omega) (by omega) (by first | (simp only [Int.reduceToNat]; rfl) | exact toNat_add1 _ | exact toNat_add2 _ _ | exact toNat_emod _ _ | exact Int.toNat_natCast _ | rfl)) ?_)
              clear hl a; intro a hl
              refine wl (w_store hl hh trivial one3 rfl rfl (by repeat (first | exact find_head | apply find_tail)) (by rw [arrL_length]; omega) (by first | rfl | assumption | (apply Row.one; assumption)) (by exact arr_store hi6) ?_)
              clear hh w; intro w hh
              refine w_nil ?_
              have hl2 := hl.add (t := 3) (hl.add (t := 4) (hl.add (t := 5) (hl.add (t := 10) (hl.add (t := 18) (hl.add (t := 19) (hl.add (t := 95) (hl.add (t := 96) (hl.add (t := 97) (hl.nil) rfl) rfl) rfl) rfl) rfl) rfl) rfl) rfl) rfl; clear hl; have hl := hl2; clear hl2
              rw [done_inc d t] at hh
              have hZF := zf_ne (mb := mb) (o := MO kStr l) (Fc := Fc) hh (by repeat (first | exact keeps_nil | apply keeps_cons (by repeat (first | exact find_head | apply find_tail)) (by first  | rfl) | exact keeps_self | exact keeps_left | exact keeps_right | exact keeps_swap | apply keeps_mv)) hZm
              refine then_normal ?_
              refine c_seq ?_
              refine c_region ?_
              first | refine wl (w_load hl hh rfl trivial one93 rfl (by repeat (first | exact find_head | apply find_tail)) (by first | exact hqt | exact hs9 | exact hd9 | rfl) ?_) | refine wl (w_loadR hl hh rfl trivial one93 rfl hsb hsbD hs9 ?_) | refine wl (w_loadR hl hh rfl trivial one93 rfl hm9 hD9 hr8 ?_) | refine wl (w_loadR hl hh rfl trivial one93 rfl hm9 hD9 hr7 ?_) | refine wl (w_loadR hl hh rfl trivial one93 rfl hsb hsbD hs6 ?_)
              clear hl a; intro a hl
              refine wl (w_loadA hl hh rfl trivial agg49 rfl (by repeat (first | exact find_head | apply find_tail)) (by exact take6 _) (by rw [arrL_length]) ?_)
              clear hl a; intro a hl
              refine wl (w_loadA hl hh rfl trivial agg53 rfl (by repeat (first | exact find_head | apply find_tail)) (by first | exact hrec | (simp only [List.getElem?_cons_zero, List.getElem?_cons_succ, Value.cells, List.take_zero, List.take_succ_cons, List.take_nil, List.drop_zero, List.drop_succ_cons, List.drop_nil, List.length_cons, List.length_nil, List.cons_append, List.nil_append, List.append_nil, Nat.zero_add, Nat.add_zero, Nat.reduceAdd, Nat.reduceBEq, Nat.reduceEqDiff, Nat.ble, BEq.rfl, Bool.and_true, Bool.and_self, cond_true, beq_self_eq_true]; rfl)) (by first | rfl | (simp; done)) ?_)
              clear hl a; intro a hl
              refine wl (w_call hl hh rfl trivial rfl cal15 rfl (ih (mu H (incF d t)) (by have := mu_inc hi6 hdl; omega) (incF d t) (N + 1) A2 (.agg ⟨[y1, y2, y3]⟩) (Z ++ Fc) l rfl (by have := mu_inc hi6 hdl; omega) (fun s hs => by unfold incF updF; split; have := hdN t hi6; omega; have := hdN s hs; omega) hS2 hF hZF) (by repeat (first | exact keeps_nil | apply keeps_cons (by repeat (first | exact find_head | apply find_tail)) (by first  | rfl) | exact keeps_self | exact keeps_left | exact keeps_right | exact keeps_swap | apply keeps_mv)) ⟨⟨(hh.frm.block sb (Array.getElem?_eq_some_iff.1 hsb).1 hsbD).trans hsb, fun t ht => mem_keepD hh (hES t ht) (fun x hx => by simp; exact hESm t ht x hx)⟩, zf_mem (mem_keepD hh hZ0 hZD) (by intro b o m; exact hh.mem b o (by simp [m]))⟩ ?_)
              clear hl hh a w; intro vc Fc a w hR hl hh
              obtain ⟨b7, l7, rfl, hb7, hF7, rfl⟩ := hR
              try simp only [List.cons_append, List.nil_append] at hh
              refine w_nil ?_
              have hl2 := hl.add (t := 3) (hl.add (t := 4) (hl.add (t := 5) (hl.add (t := 10) (hl.add (t := 95) (hl.add (t := 96) (hl.add (t := 97) (hl.add (t := 136) (hl.nil) rfl) rfl) rfl) rfl) rfl) rfl) rfl) rfl; clear hl; have hl := hl2; clear hl2
              refine then_normal ?_
              refine c_cond hl rfl ?_ ?_
              · intro hc8
                try simp only [decide_eq_true_eq, decide_eq_false_iff_not, Bool.not_eq_true', Bool.not_eq_false', Bool.not_eq_true, Bool.not_eq_false, Bool.and_eq_true, Bool.or_eq_true, Bool.and_eq_false_iff, Bool.or_eq_false_iff, Bool.not_not, ne_eq, Int.not_lt, Int.not_le, Decidable.not_not, beq_iff_eq, bne_iff_ne] at hc8
                refine c_seq ?_
                refine c_region ?_
                refine wl (wl_val hl rfl trivial (r_assign hl rfl) ?_)
                clear hl a; intro a hl
                refine w_nil ?_
                have hl2 := hl.add (t := 6) (hl.nil) rfl; clear hl; have hl := hl2; clear hl2
                refine then_normal ?_
                refine wp_ret ?_
                refine blk_ret ?_
                refine then_ret ?_
                refine then_ret ?_
                refine blk_ret ?_
                refine then_ret ?_
                refine f_ret1 (F' := [(mb, MO kStr l7)]) hl hh rfl rfl (by repeat (first | exact keeps_nil | apply keeps_cons (by repeat (first | exact find_head | apply find_tail)) (by first  | rfl) | exact keeps_self | exact keeps_left | exact keeps_right | exact keeps_swap | apply keeps_mv)) ?_
                exact ⟨true, l7, rfl, fun q => (by cases q), hF7, rfl⟩
              · intro hc8
                try simp only [decide_eq_true_eq, decide_eq_false_iff_not, Bool.not_eq_true', Bool.not_eq_false', Bool.not_eq_true, Bool.not_eq_false, Bool.and_eq_true, Bool.or_eq_true, Bool.and_eq_false_iff, Bool.or_eq_false_iff, Bool.not_not, ne_eq, Int.not_lt, Int.not_le, Decidable.not_not, beq_iff_eq, bne_iff_ne] at hc8
                have hbt8 : Bad k H d A t := fun r9 hr9 => by
                  rw [hr] at hr9; injection hr9 with hr9; subst hr9
                  refine .inr ?_
                  rw [hst]
                  exact hb7 hc8
                refine wp_skip ?_
                refine blk_normal ?_
                refine then_normal ?_
                refine c_region ?_
                first | refine wl (wl_val hl rfl trivial (r_add hl rfl rfl (by simp only [Fits]; omega)) ?_) | refine wl (wl_val hl rfl trivial (r_addW hl rfl rfl) ?_)
                clear hl a; intro a hl
                refine wl (wl_val hl rfl trivial (r_move hl rfl) ?_)
                clear hl a; intro a hl
                refine w_nil ?_
                have hl2 := hl.add (t := 3) (hl.add (t := 4) (hl.add (t := 5) (hl.add (t := 10) (hl.add (t := 95) (hl.add (t := 96) (hl.add (t := 97) (hl.nil) rfl) rfl) rfl) rfl) rfl) rfl) rfl; clear hl; have hl := hl2; clear hl2
                refine then_normal ?_
                first | refine ⟨⟨i + 1, l⟩, (by simp only; omega), ⟨by simp only; omega, hF, bad_snoc htt hbad hbt⟩, hl.addE (t := 97) (hl.addE (t := 3) (hl.addE (t := 4) (hl.addE (t := 5) (hl.addE (t := 10) (hl.addE (t := 95) (hl.addE (t := 96) (hl.nil) rfl (by first | rfl | exact congrArg (Value.int .i64) (i_succ i))) rfl (by first | rfl | exact congrArg (Value.int .i64) (i_succ i))) rfl (by first | rfl | exact congrArg (Value.int .i64) (i_succ i))) rfl (by first | rfl | exact congrArg (Value.int .i64) (i_succ i))) rfl (by first | rfl | exact congrArg (Value.int .i64) (i_succ i))) rfl (by first | rfl | exact congrArg (Value.int .i64) (i_succ i))) rfl (by first | rfl | exact congrArg (Value.int .i64) (i_succ i)), hh.keep (by repeat (first | exact keeps_nil | apply keeps_cons (by repeat (first | exact find_head | apply find_tail)) (by first  | rfl) | exact keeps_self | exact keeps_left | exact keeps_right | exact keeps_swap | apply keeps_mv))⟩ | refine ⟨⟨i + 1, l7⟩, (by simp only; omega), ⟨by simp only; omega, hF7, bad_snoc htt hbad hbt8⟩, hl.addE (t := 97) (hl.addE (t := 3) (hl.addE (t := 4) (hl.addE (t := 5) (hl.addE (t := 10) (hl.addE (t := 95) (hl.addE (t := 96) (hl.nil) rfl (by first | rfl | exact congrArg (Value.int .i64) (i_succ i))) rfl (by first | rfl | exact congrArg (Value.int .i64) (i_succ i))) rfl (by first | rfl | exact congrArg (Value.int .i64) (i_succ i))) rfl (by first | rfl | exact congrArg (Value.int .i64) (i_succ i))) rfl (by first | rfl | exact congrArg (Value.int .i64) (i_succ i))) rfl (by first | rfl | exact congrArg (Value.int .i64) (i_succ i))) rfl (by first | rfl | exact congrArg (Value.int .i64) (i_succ i)), hh.keep (by repeat (first | exact keeps_nil | apply keeps_cons (by repeat (first | exact find_head | apply find_tail)) (by first  | rfl) | exact keeps_self | exact keeps_left | exact keeps_right | exact keeps_swap | apply keeps_mv))⟩
          · intro hc6
            try simp only [decide_eq_true_eq, decide_eq_false_iff_not, Bool.not_eq_true', Bool.not_eq_false', Bool.not_eq_true, Bool.not_eq_false, Bool.and_eq_true, Bool.or_eq_true, Bool.and_eq_false_iff, Bool.or_eq_false_iff, Bool.not_not, ne_eq, Int.not_lt, Int.not_le, Decidable.not_not, beq_iff_eq, bne_iff_ne] at hc6
            have hie : i = ts2.length := by omega
            subst hie
            rw [List.take_length] at hbad
            have hnc : ¬ Cmp k H d A := not_cmp hfe6 hiv (fun t ht hc => hbad t (hp2.mem_iff.2 (by rw [hts0, List.mem_filter, List.mem_range]; exact ⟨ht, hc⟩)))
            refine wp_exit ?_
            refine then_exit ?_
            refine then_exit ?_
            refine blk_exit ?_
            refine then_normal ?_
            refine c_seq ?_
            refine c_region ?_
            first | refine wl (w_load hl hh rfl trivial one93 rfl (by repeat (first | exact find_head | apply find_tail)) (by first | exact hqt | exact hs9 | exact hd9 | rfl) ?_) | refine wl (w_loadR hl hh rfl trivial one93 rfl hsb hsbD hs9 ?_) | refine wl (w_loadR hl hh rfl trivial one93 rfl hm9 hD9 hr8 ?_) | refine wl (w_loadR hl hh rfl trivial one93 rfl hm9 hD9 hr7 ?_) | refine wl (w_loadR hl hh rfl trivial one93 rfl hsb hsbD hs6 ?_)
            clear hl a; intro a hl
            refine wl (wl_val hl rfl trivial (r_nilCheck hl rfl) ?_)
            clear hl a; intro a hl
            refine wl (wl_val hl rfl trivial (r_field hl rfl fld47_1) ?_)
            clear hl a; intro a hl
            first | refine wl (w_load hl hh rfl trivial one45 rfl (by repeat (first | exact find_head | apply find_tail)) (by first | exact hqt | exact hs9 | exact hd9 | rfl) ?_) | refine wl (w_loadR hl hh rfl trivial one45 rfl hsb hsbD hs9 ?_) | refine wl (w_loadR hl hh rfl trivial one45 rfl hm9 hD9 hr8 ?_) | refine wl (w_loadR hl hh rfl trivial one45 rfl hm9 hD9 hr7 ?_) | refine wl (w_loadR hl hh rfl trivial one45 rfl hsb hsbD hs6 ?_)
            clear hl a; intro a hl
            refine wl (wl_val hl rfl trivial (r_move hl rfl) ?_)
            clear hl a; intro a hl
            refine wl (w_mapUpdate (keyStr Tryz.underlying9) Tryz.underlying45 hl hh trivial rfl rfl rfl (by repeat (first | exact find_head | apply find_tail)) ?_)
            clear hh w; intro w hh
            refine w_nil ?_
            have hl2 := hl.nil; clear hl; have hl := hl2; clear hl2
            refine then_normal ?_
            refine c_seq ?_
            refine c_region ?_
            refine wl (wl_val hl rfl trivial (r_assign hl rfl) ?_)
            clear hl a; intro a hl
            refine w_nil ?_
            have hl2 := hl.add (t := 6) (hl.nil) rfl; clear hl; have hl := hl2; clear hl2
            refine then_normal ?_
            refine wp_ret ?_
            refine f_ret1 (F' := [(mb, MO kStr (mput l (kyS k d A) (.bool true)))]) hl hh rfl rfl (by repeat (first | exact keeps_nil | apply keeps_cons (by repeat (first | exact find_head | apply find_tail)) (by first  | rfl) | exact keeps_self | exact keeps_left | exact keeps_right | exact keeps_swap | apply keeps_mv)) ?_
            exact ⟨false, _, rfl, fun _ => hnc, fail_put hF hSO hnc, rfl⟩
end Go.Proofs.Qxb6500914aGreat

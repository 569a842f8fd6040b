import Derived.Test.Qxb6500911aGreatDoorA18
namespace Go.Proofs.Qxb6500911aGreatDoor
open Go.Eng
set_option linter.unusedVariables false
set_option linter.unusedSimpArgs false
theorem zero105 : zeroOk Tryz.prog 105 (.agg #[(.slice none 0 0), (.slice none 0 0), (.slice none 0 0), (.slice none 0 0), (.slice none 0 0), (.slice none 0 0), (.slice none 0 0), (.slice none 0 0), (.slice none 0 0), (.slice none 0 0), (.slice none 0 0), (.slice none 0 0), (.slice none 0 0), (.slice none 0 0), (.slice none 0 0), (.slice none 0 0)]) := by unfold zeroOk; kernel_rfl
theorem bld105 : buildOk Tryz.prog 105 [(0, 16)] = true := by kernel_rfl
theorem bld111 : buildOk Tryz.prog 111 [(0, 320), (320, 20)] = true := by kernel_rfl
theorem bld94 : buildOk Tryz.prog 94 [(0, 1), (1, 1), (2, 16), (18, 128)] = true := by kernel_rfl
theorem bld52 : buildOk Tryz.prog 52 [(0, 16), (16, 68), (84, 16), (100, 16)] = true := by kernel_rfl
theorem bld46 : buildOk Tryz.prog 46 [(0, 16), (16, 1)] = true := by kernel_rfl
theorem zero46 : zeroOk Tryz.prog 46 (.agg #[(.int .u64 0), (.int .u64 0), (.int .u64 0), (.int .u64 0), (.int .u64 0), (.int .u64 0), (.int .u64 0), (.int .u64 0), (.int .u64 0), (.int .u64 0), (.int .u64 0), (.int .u64 0), (.int .u64 0), (.int .u64 0), (.int .u64 0), (.int .u64 0), (.slice none 0 0)]) := by unfold zeroOk; kernel_rfl
theorem zero28 : zeroOk Tryz.prog 28 (.agg #[(.pointer none), (.pointer none), (.pointer none)]) := by unfold zeroOk; kernel_rfl
theorem cal14 : callable Tryz.prog 14 = true := by kernel_rfl
theorem cal15 : callable Tryz.prog 15 = true := by kernel_rfl
theorem cal16 : callable Tryz.prog 16 = true := by kernel_rfl
theorem bld28 : buildOk Tryz.prog 28 [(0, 1), (1, 1), (2, 1)] = true := by kernel_rfl
theorem agg28 : aggOk Tryz.prog 28 3 = true := by kernel_rfl
theorem agg43 : aggOk Tryz.prog 43 16 = true := by kernel_rfl
theorem cal58 : callable Tryz.prog 58 = true := by kernel_rfl
theorem agg46 : aggOk Tryz.prog 46 17 = true := by kernel_rfl
theorem cal27 : callable Tryz.prog 27 = true := by kernel_rfl
theorem agg52 : aggOk Tryz.prog 52 116 = true := by kernel_rfl
theorem cal33 : callable Tryz.prog 33 = true := by kernel_rfl
theorem fld52_1 : fieldOk Tryz.prog 52 1 16 = true := by kernel_rfl
theorem arr47 : arrOk Tryz.prog 47 4 17 = true := by kernel_rfl
theorem cal34 : callable Tryz.prog 34 = true := by kernel_rfl
theorem fld52_2 : fieldOk Tryz.prog 52 2 84 = true := by kernel_rfl
/-! ## a fresh system; what a state reads as -/
def nilS : Value := .slice none 0 0
def z110 : Nat → Value := fun j => if j < 2 then .pointer none else if j < 18 then .int .u64 0 else if (j - 18) % 32 < 16 then .int .u64 0 else .slice none 0 0
def z117 : Nat → Value := fun j => if j < 320 then .int .i64 0 else .slice none 0 0
def stV (ep : Nat → Int) (fz : Nat → Nat → Int) (ev bv : Nat → Value) (wf : Nat → BitVec 16) : Nat → Value := fun j =>
  if j < 16 then .int .u64 (ep j) else if j < 84 then (if (j - 16) % 17 = 16 then ev ((j - 16) / 17) else .int .u64 (fz ((j - 16) / 17) ((j - 16) % 17))) else if j < 100 then bv (j - 84) else .int .u16 (mi (wf (j - 100)))
def z75 : Nat → Value := stV (fun _ => 0) (fun _ _ => 0) (fun _ => .slice none 0 0) (fun _ => .slice none 0 0) (fun _ => 0#16)
theorem zero94 : zeroOk Tryz.prog 94 (.agg ⟨arrL 146 z110⟩) := by unfold zeroOk; kernel_rfl
theorem zero111 : zeroOk Tryz.prog 111 (.agg ⟨arrL 340 z117⟩) := by unfold zeroOk; kernel_rfl
theorem zero52 : zeroOk Tryz.prog 52 (.agg ⟨arrL 116 z75⟩) := by unfold zeroOk; kernel_rfl
theorem m103 : C [.slice none 0 0, .slice none 0 0, .slice none 0 0, .slice none 0 0, .slice none 0 0, .slice none 0 0, .slice none 0 0, .slice none 0 0, .slice none 0 0, .slice none 0 0, .slice none 0 0, .slice none 0 0, .slice none 0 0, .slice none 0 0, .slice none 0 0, .slice none 0 0] 105 = C (arrL 16 (fun _ => .slice none 0 0)) 105 := by unfold arrL; rfl
theorem arrL_setA {n m o : Nat} {g h : Nat → Value} (ho : o + m ≤ n) : setL (arrL n g) o (arrL m h) = arrL n (fun j => if o ≤ j ∧ j < o + m then h (j - o) else g j) := by
  have hl := arrL_length n g
  have hm := arrL_length m h
  apply List.ext_getElem?
  intro j
  simp only [setL, hm]
  by_cases e1 : j < o
  · rw [List.append_assoc, List.getElem?_append_left (by rw [List.length_take, hl]; omega), List.getElem?_take, if_pos e1, arrL_get (by omega), arrL_get (by omega), if_neg (by omega)]
  · rw [List.append_assoc, List.getElem?_append_right (by rw [List.length_take, hl]; omega)]
    rw [show (List.take o (arrL n g)).length = o by rw [List.length_take, hl]; omega]
    by_cases e2 : j < o + m
    · rw [List.getElem?_append_left (by rw [hm]; omega), arrL_get (by omega), arrL_get (by omega), if_pos (by omega)]
    · rw [List.getElem?_append_right (by rw [hm]; omega), hm, List.getElem?_drop]
      by_cases e3 : j < n
      · rw [show o + m + (j - o - m) = j by omega, arrL_get e3, arrL_get e3, if_neg (by omega)]
      · rw [List.getElem?_eq_none (by rw [hl]; omega), List.getElem?_eq_none (by rw [arrL_length]; omega)]
theorem fill110 {p q : Value} (hp : p.cells.toList = [p]) (hq : q.cells.toList = [q]) {pl : List (Nat × Nat)} (h0 : pl[0]? = some (0, 1)) (h1 : pl[1]? = some (1, 1)) : fillL pl (arrL 146 z110) [(0, p), (1, q)] = some (arrL 146 (updV (updV z110 0 p) 1 q)) := by
  rw [fillL_cons h0 (by rw [hp]; rfl) (by rw [arrL_length]; omega), hp, arrL_set (by omega), fillL_cons h1 (by rw [hq]; rfl) (by rw [arrL_length]; omega), hq, arrL_set (by omega)]; rfl
def tb0 : Tab := ⟨fun _ _ => 0, fun _ => []⟩
def g00 : Gs := ⟨fun _ => 0, fun _ => 0, fun _ => [], fun _ => [], tb0⟩
def M00 (bm bt : Nat) : Mm := ⟨bm, bt, updV (updV z110 0 (.pointer (some ⟨bm, 0, none⟩))) 1 (.pointer (some ⟨bt, 0, none⟩)), fun _ => .slice none 0 0, z117, fun _ => [], fun _ => [], fun _ => []⟩
theorem sys00 (bm bt : Nat) : SysF g00 (M00 bm bt) := by
  refine ⟨⟨rfl, rfl, fun t ht => ?_, fun c q hc hq => ⟨?_, ?_⟩⟩, ⟨fun b hb => Row.nil _ _⟩, ⟨fun r t hr ht => ?_, fun r hr => ?_⟩⟩
  · simp only [M00]
    rw [updV_ne _ _ (by omega), updV_ne _ _ (by omega)]
    unfold z110; rw [if_neg (by omega), if_pos (by omega)]; rfl
  · simp only [M00]
    rw [updV_ne _ _ (by omega), updV_ne _ _ (by omega)]
    unfold z110; rw [if_neg (by omega), if_neg (by omega), if_pos (by omega)]
    unfold flK; split <;> rfl
  · have : (M00 bm bt).fg (34 + 32 * c + q) = .slice none 0 0 := by
      simp only [M00]
      rw [updV_ne _ _ (by omega), updV_ne _ _ (by omega)]
      unfold z110; rw [if_neg (by omega), if_neg (by omega), if_neg (by omega)]
    rw [this]
    have : wsK g00.ws c q = [] := by unfold wsK; split <;> rfl
    rw [this]; exact Row.nil _ _
  · simp only [M00]
    unfold z117; rw [if_pos (by omega)]; rfl
  · have : (M00 bm bt).ft (320 + r) = .slice none 0 0 := by
      simp only [M00]; unfold z117; rw [if_neg (by omega)]
    rw [this]; exact Row.nil _ _
theorem fam_nil : ∀ n, fam (fun _ => []) n = []
  | 0 => by unfold fam; rfl
  | n + 1 => by unfold fam; rw [fam_nil n]; rfl
theorem sysL00 (bg bm bt : Nat) : sysL bg (M00 bm bt) = [(bg, C (arrL 146 (updV (updV z110 0 (.pointer (some ⟨bm, 0, none⟩))) 1 (.pointer (some ⟨bt, 0, none⟩)))) 94), (bm, C (arrL 16 (fun _ => .slice none 0 0)) 105), (bt, C (arrL 340 z117) 111)] := by
  unfold sysL grL mcL tbL
  simp only [M00, fam_nil, List.cons_append, List.nil_append]
theorem sumN_zero : ∀ n, sumN (fun _ => 0) n = 0
  | 0 => rfl
  | n + 1 => by unfold sumN; rw [sumN_zero n]; rfl
theorem GI00 : GI 0 0 g00 := by
  refine ⟨⟨fun r hr => ⟨fun t ht => Int.le_refl _, ?_, nofun, List.Pairwise.nil⟩, fun r r' _ _ x hx => (nomatch hx)⟩, fun t ht => WsOk.nil _, fun t ht x hx => (nomatch hx), fun t ht => ⟨Int.le_refl _, by simp [g00]⟩, ⟨fun t ht => ⟨Int.le_refl _, Int.le_refl _⟩⟩, fun b hb => by simp [g00], fun b hb m hm => (nomatch hm)⟩
  show sumN (fun _ => 0) 16 ≤ 16
  rw [sumN_zero]; omega
/-! a shard's state -/
def shV (fz : Nat → Int) (ev : Value) : Nat → Value := fun j => if j = 16 then ev else .int .u64 (fz j)
theorem gr_floor {ep flr : Nat → Int} {ws : Nat → List Wt} {bm bt : Nat} {f : Nat → Value} {E : Nat → List (Nat × Obj)} (h : GrF ep flr ws bm bt f E) {c : Nat} (hc : c < 4) : ((arrL 146 f).drop (0 + 18 + c * 32 + 0)).take 16 = arrL 16 (fun q => .int .u64 (flK flr c q)) := by
  rw [arrL_cut (by omega)]
  exact arrL_congr fun q hq => by rw [show 0 + 18 + c * 32 + 0 + q = 18 + 32 * c + q by omega]; exact (h.sh c q hc hq).flr
theorem gr_eps {ep flr : Nat → Int} {ws : Nat → List Wt} {bm bt : Nat} {f : Nat → Value} {E : Nat → List (Nat × Obj)} (h : GrF ep flr ws bm bt f E) : ((arrL 146 f).drop (0 + 2)).take 16 = arrL 16 (fun q => .int .u64 (ep q)) := by
  rw [arrL_cut (by omega)]
  exact arrL_congr fun q hq => by rw [show 0 + 2 + q = 2 + q by omega]; exact h.ep q hq
theorem arrL_snoc {n : Nat} {g : Nat → Value} {v : Value} : arrL n g ++ [v] = arrL (n + 1) (fun j => if j = n then v else g j) := by
  unfold arrL
  rw [List.range_succ, List.map_append]
  congr 1
  · exact List.map_congr_left fun i hi => by rw [if_neg (by have := List.mem_range.1 hi; omega)]
  · simp
theorem fill61 {A zl : List Value} {p : Option Addr} {n c : Nat} {pl : List (Nat × Nat)} (h0 : pl[0]? = some (0, 16)) (h1 : pl[1]? = some (16, 1)) (hA : A.length = 16) (hz : zl.length = 17) : fillL pl zl [(0, .agg ⟨A⟩), (1, .slice p n c)] = some (A ++ [.slice p n c]) := by
  rw [fillL_cons h0 (by simpa [Value.cells] using hA) (by omega), fillL_cons h1 (by rfl) (by unfold setL; simp [Value.cells, hA]; omega)]
  simp only [fillL, Value.cells]
  congr 1
  unfold setL
  simp only [List.take_zero, List.nil_append, Nat.zero_add, hA]
  rw [List.take_append_of_le_length (by omega), List.take_of_length_le (by omega)]
  rw [List.drop_append]
  simp [hA, hz]
structure SnR (g : Gs) (ev bv : Nat → Value) (Ee Eb : Nat → List (Nat × Obj)) : Prop where
  e : ∀ c, c < 4 → Row (ev c) (edN (wsK g.ws c) 16).length (fl egc (edN (wsK g.ws c) 16)) 4 102 (Ee c)
  b : ∀ b, b < 16 → Row (bv b) (g.bx b).length (fl msc (g.bx b)) 7 77 (Eb b)
def snC (g : Gs) (ev bv : Nat → Value) : List Value := arrL 116 (stV g.ep (flK g.flr) ev bv (wfN g.tb 20))
theorem fill75 {A M : List Value} {ep : Nat → Int} {wf : Nat → BitVec 16} {pl : List (Nat × Nat)} (h0 : pl[0]? = some (0, 16)) (h3 : pl[3]? = some (100, 16)) (hA : A = arrL 16 (fun q => .int .u64 (ep q))) (hM : M = mskA wf) : fillL pl (arrL 116 z75) [(0, .agg ⟨A⟩), (3, .agg ⟨M⟩)] = some (arrL 116 (stV ep (fun _ _ => 0) (fun _ => .slice none 0 0) (fun _ => .slice none 0 0) wf)) := by
  subst hA; subst hM
  have e1 : (Value.agg ⟨arrL 16 (fun q => .int .u64 (ep q))⟩).cells.toList = arrL 16 (fun q => .int .u64 (ep q)) := rfl
  have e2 : (Value.agg ⟨mskA wf⟩).cells.toList = mskA wf := rfl
  rw [fillL_cons h0 (by rw [e1]; exact arrL_length _ _) (by rw [arrL_length]; omega), e1, arrL_setA (by omega), fillL_cons h3 (by rw [e2]; exact mskA_len _) (by rw [arrL_length]; omega), e2]
  unfold mskA
  rw [arrL_setA (by omega)]
  simp only [fillL]
  congr 1
  refine arrL_congr fun j hj => ?_
  unfold z75 stV
  by_cases c1 : 100 ≤ j
  · rw [if_pos (by omega), if_neg (by omega), if_neg (by omega), if_neg (by omega)]
  · rw [if_neg (by omega)]
    by_cases c2 : j < 16
    · rw [if_pos (by omega), if_pos c2, Nat.sub_zero]
    · rw [if_neg (by omega), if_neg c2, if_neg c2]
      by_cases c3 : j < 84
      · rw [if_pos c3, if_pos c3]
      · rw [if_neg c3, if_neg c3, if_pos (by omega), if_pos (by omega)]
def upto (i : Nat) (f : Nat → Value) : Nat → Value := fun c => if c < i then f c else .slice none 0 0
def uptoF (i : Nat) (f : Nat → Nat → Int) : Nat → Nat → Int := fun c q => if c < i then f c q else 0
theorem st_shard {ep : Nat → Int} {fz : Nat → Nat → Int} {ev bv : Nat → Value} {wf : Nat → BitVec 16} {i : Nat} {v : Value} (hi : i < 4) : setL (arrL 116 (stV ep (uptoF i fz) (upto i ev) bv wf)) (0 + 16 + i * 17) (arrL 17 (shV (fz i) v)) = arrL 116 (stV ep (uptoF (i + 1) fz) (upto (i + 1) (updV ev i v)) bv wf) := by
  rw [arrL_setA (by omega)]
  refine arrL_congr fun j hj => ?_
  unfold stV shV uptoF upto updV
  by_cases c1 : 0 + 16 + i * 17 ≤ j ∧ j < 0 + 16 + i * 17 + 17
  · have d1 : ¬ j < 16 := by omega
    have d2 : j < 84 := by omega
    rw [if_pos c1]
    simp only [if_neg d1, if_pos d2]
    have e1 : (j - 16) / 17 = i := by omega
    have e2 : (j - 16) % 17 = j - (0 + 16 + i * 17) := by omega
    rw [e1, e2]
    by_cases c2 : j - (0 + 16 + i * 17) = 16
    · rw [if_pos c2, if_pos c2, if_pos (by omega), if_pos rfl]
    · rw [if_neg c2, if_neg c2, if_pos (by omega)]
  · rw [if_neg c1]
    by_cases c2 : j < 16
    · rw [if_pos c2, if_pos c2]
    · rw [if_neg c2, if_neg c2]
      by_cases c3 : j < 84
      · rw [if_pos c3, if_pos c3]
        have hne : (j - 16) / 17 ≠ i := by omega
        by_cases c4 : (j - 16) % 17 = 16
        · rw [if_pos c4, if_pos c4]
          by_cases c5 : (j - 16) / 17 < i
          · rw [if_pos c5, if_pos (by omega), if_neg hne]
          · rw [if_neg c5, if_neg (by omega)]
        · rw [if_neg c4, if_neg c4]
          by_cases c5 : (j - 16) / 17 < i
          · rw [if_pos c5, if_pos (by omega)]
          · rw [if_neg c5, if_neg (by omega)]
      · rw [if_neg c3, if_neg c3]
theorem st_box {ep : Nat → Int} {fz : Nat → Nat → Int} {ev bv : Nat → Value} {wf : Nat → BitVec 16} {i : Nat} {v : Value} (hi : i < 16) : setL (arrL 116 (stV ep fz ev (upto i bv) wf)) (0 + 84 + i * 1) [v] = arrL 116 (stV ep fz ev (upto (i + 1) (updV bv i v)) wf) := by
  rw [show 0 + 84 + i * 1 = 84 + i by omega, arrL_set (by omega)]
  refine arrL_congr fun j hj => ?_
  unfold updV stV upto
  by_cases c1 : j = 84 + i
  · subst c1; rw [if_pos rfl, if_neg (by omega), if_neg (by omega), if_pos (by omega), if_pos (by omega)]; simp
  · rw [if_neg c1]
    by_cases c2 : j < 16
    · rw [if_pos c2, if_pos c2]
    · rw [if_neg c2, if_neg c2]
      by_cases c3 : j < 84
      · rw [if_pos c3, if_pos c3]
      · rw [if_neg c3, if_neg c3]
        by_cases c4 : j < 100
        · rw [if_pos c4, if_pos c4]
          by_cases c5 : j - 84 < i
          · rw [if_pos c5, if_pos (by omega)]; simp only; rw [if_neg (by omega)]
          · rw [if_neg c5, if_neg (by omega)]
        · rw [if_neg c4, if_neg c4]
theorem st_congr {ep : Nat → Int} {fz fz' : Nat → Nat → Int} {ev ev' bv bv' : Nat → Value} {wf : Nat → BitVec 16} (h1 : ∀ c q, c < 4 → q < 16 → fz c q = fz' c q) (h2 : ∀ c, c < 4 → ev c = ev' c) (h3 : ∀ b, b < 16 → bv b = bv' b) : arrL 116 (stV ep fz ev bv wf) = arrL 116 (stV ep fz' ev' bv' wf) := by
  refine arrL_congr fun j hj => ?_
  unfold stV
  by_cases c2 : j < 16
  · rw [if_pos c2, if_pos c2]
  · rw [if_neg c2, if_neg c2]
    by_cases c3 : j < 84
    · rw [if_pos c3, if_pos c3]
      by_cases c4 : (j - 16) % 17 = 16
      · rw [if_pos c4, if_pos c4, h2 _ (by omega)]
      · rw [if_neg c4, if_neg c4, h1 _ _ (by omega) (by omega)]
    · rw [if_neg c3, if_neg c3]
      by_cases c4 : j < 100
      · rw [if_pos c4, if_pos c4, h3 _ (by omega)]
      · rw [if_neg c4, if_neg c4]
theorem fam_congr {E E' : Nat → List (Nat × Obj)} : ∀ {n}, (∀ j, j < n → E j = E' j) → fam E n = fam E' n
  | 0, _ => by unfold fam; rfl
  | n + 1, h => by unfold fam; rw [fam_congr (n := n) (fun j hj => h j (by omega)), h n (by omega)]
theorem fam_snoc (E : Nat → List (Nat × Obj)) (n : Nat) (X : List (Nat × Obj)) : fam (updE E n X) (n + 1) = fam E n ++ X := by
  have h : fam (updE E n X) n = fam E n := fam_congr fun j hj => updE_ne E X (by omega)
  conv => lhs; unfold fam
  rw [h, updE_self]
structure SZ where
  ev : Nat → Value
  Ee : Nat → List (Nat × Obj)
  i : Nat
theorem fam0 (E : Nat → List (Nat × Obj)) : fam E 0 = [] := by unfold fam; rfl
theorem arr_whole116 (g : Nat → Value) : ((arrL 116 g).drop 0).take 116 = arrL 116 g := by rw [List.drop_zero, List.take_of_length_le (by rw [arrL_length]; omega)]
theorem arrL_all2 {N : Nat} {g : Nat → Value} (h : ∀ i, i < N → (g i).oneCell' = true) : (arrL N g).all (·.oneCell') = true := by
  unfold arrL
  rw [List.all_eq_true]
  intro v hv
  obtain ⟨i, hi, rfl⟩ := List.mem_map.1 hv
  exact h i (List.mem_range.1 hi)
theorem stV_one2 {ep : Nat → Int} {fz : Nat → Nat → Int} {ev bv : Nat → Value} {wf : Nat → BitVec 16} (h1 : ∀ c, c < 4 → (ev c).oneCell' = true) (h2 : ∀ b, b < 16 → (bv b).oneCell' = true) : (arrL 116 (stV ep fz ev bv wf)).all (·.oneCell') = true :=
  arrL_all2 fun j hj => by
    unfold stV
    by_cases c2 : j < 16
    · rw [if_pos c2]; rfl
    · rw [if_neg c2]
      by_cases c3 : j < 84
      · rw [if_pos c3]; exact ite_one (h1 _ (by omega)) rfl
      · rw [if_neg c3]
        by_cases c4 : j < 100
        · rw [if_pos c4]; exact h2 _ (by omega)
        · rw [if_neg c4]; rfl


set_option maxHeartbeats 1000000 in
theorem newM_spec : Sp Tryz.prog 14 #[] [] (fun v F' => ∃ bm, v = .pointer (some ⟨bm, 0, none⟩) ∧ F' = [(bm, C (arrL 16 (fun _ => .slice none 0 0)) 105)]) := by
  refine f_enter (args := []) Tryz.func14 rfl Tryz.ntmps14 rfl ?_
  intro w0 w a hpre hl hh
  simp only [slotsFrom, Nat.reduceAdd] at hl
  refine c_seq ?_
  refine c_region ?_
  refine wl (wl_val hl rfl trivial (r_assign hl rfl) ?_)
  clear hl a; intro a hl
  refine w_nil ?_
  have hl2 := hl.nil; clear hl; have hl := hl2; clear hl2
  refine then_normal ?_
  refine c_seq ?_
  refine c_region ?_
  refine wl (wl_val hl rfl trivial (r_build hl rfl zero105 bld105 (by simp only [fillL, setL, List.getElem?_cons_zero, List.getElem?_cons_succ, Value.cells, List.take_zero, List.take_succ_cons, List.take_nil, List.drop_zero, List.drop_succ_cons, List.drop_nil, List.length_cons, List.length_nil, List.cons_append, List.nil_append, List.append_nil, Nat.zero_add, Nat.add_zero, Nat.reduceAdd, Nat.reduceBEq, Nat.reduceEqDiff, Nat.ble, BEq.rfl, Bool.and_true, Bool.and_self, cond_true, beq_self_eq_true]; rfl)) ?_)
  clear hl a; intro a hl
  refine wl (w_box hl hh rfl trivial rfl rfl ?_)
  clear hl hh a w; intro k2 a w hl hh
  rw [m103] at hh
  refine wl (wl_val hl rfl trivial (r_assign hl rfl) ?_)
  clear hl a; intro a hl
  refine w_nil ?_
  have hl2 := hl.add (t := 0) (hl.nil) rfl; clear hl; have hl := hl2; clear hl2
  refine then_normal ?_
  refine wp_ret ?_
  refine f_ret1 (F' := [(k2, C (arrL 16 (fun _ => .slice none 0 0)) 105)]) hl hh rfl rfl (by repeat (first | exact keeps_nil | apply keeps_cons (by repeat (first | exact find_head | apply find_tail)) (by first  | rfl) | exact keeps_self | apply keeps_mv)) ?_
  exact ⟨k2, rfl, rfl⟩

set_option maxHeartbeats 1000000 in
theorem newT_spec : Sp Tryz.prog 15 #[] [] (fun v F' => ∃ bt, v = .pointer (some ⟨bt, 0, none⟩) ∧ F' = [(bt, C (arrL 340 z117) 111)]) := by
  refine f_enter (args := []) Tryz.func15 rfl Tryz.ntmps15 rfl ?_
  intro w0 w a hpre hl hh
  simp only [slotsFrom, Nat.reduceAdd] at hl
  refine c_seq ?_
  refine c_region ?_
  refine wl (wl_val hl rfl trivial (r_assign hl rfl) ?_)
  clear hl a; intro a hl
  refine w_nil ?_
  have hl2 := hl.nil; clear hl; have hl := hl2; clear hl2
  refine then_normal ?_
  refine c_seq ?_
  refine c_region ?_
  refine wl (wl_val hl rfl trivial (r_build hl rfl zero111 bld111 rfl) ?_)
  clear hl a; intro a hl
  refine wl (w_box hl hh rfl trivial rfl rfl ?_)
  clear hl hh a w; intro k2 a w hl hh
  refine wl (wl_val hl rfl trivial (r_assign hl rfl) ?_)
  clear hl a; intro a hl
  refine w_nil ?_
  have hl2 := hl.add (t := 0) (hl.nil) rfl; clear hl; have hl := hl2; clear hl2
  refine then_normal ?_
  refine wp_ret ?_
  refine f_ret1 (F' := [(k2, C (arrL 340 z117) 111)]) hl hh rfl rfl (by repeat (first | exact keeps_nil | apply keeps_cons (by repeat (first | exact find_head | apply find_tail)) (by first  | rfl) | exact keeps_self | apply keeps_mv)) ?_
  exact ⟨k2, rfl, rfl⟩

set_option maxHeartbeats 1000000 in
theorem newG_spec (bm bt : Nat) : Sp Tryz.prog 16 #[.pointer (some ⟨bm, 0, none⟩), .pointer (some ⟨bt, 0, none⟩)] [] (fun v F' => ∃ bg, v = .pointer (some ⟨bg, 0, none⟩) ∧ F' = [(bg, C (arrL 146 (updV (updV z110 0 (.pointer (some ⟨bm, 0, none⟩))) 1 (.pointer (some ⟨bt, 0, none⟩)))) 94)]) := by
  refine f_enter (args := [.pointer (some ⟨bm, 0, none⟩), .pointer (some ⟨bt, 0, none⟩)]) Tryz.func16 rfl Tryz.ntmps16 rfl ?_
  intro w0 w a hpre hl hh
  simp only [slotsFrom, Nat.reduceAdd] at hl
  refine c_seq ?_
  refine c_region ?_
  refine wl (wl_val hl rfl trivial (r_assign hl rfl) ?_)
  clear hl a; intro a hl
  refine w_nil ?_
  have hl2 := hl.add (t := 0) (hl.add (t := 1) (hl.nil) rfl) rfl; clear hl; have hl := hl2; clear hl2
  refine then_normal ?_
  refine c_seq ?_
  refine c_region ?_
  refine wl (wl_val hl rfl trivial (r_move hl rfl) ?_)
  clear hl a; intro a hl
  refine wl (wl_val hl rfl trivial (r_move hl rfl) ?_)
  clear hl a; intro a hl
  refine wl (wl_val hl rfl trivial (r_build hl rfl zero94 bld94 (fill110 rfl rfl rfl rfl)) ?_)
  clear hl a; intro a hl
  refine wl (w_box hl hh rfl trivial rfl rfl ?_)
  clear hl hh a w; intro k8 a w hl hh
  refine wl (wl_val hl rfl trivial (r_assign hl rfl) ?_)
  clear hl a; intro a hl
  refine w_nil ?_
  have hl2 := hl.add (t := 4) (hl.nil) rfl; clear hl; have hl := hl2; clear hl2
  refine then_normal ?_
  refine wp_ret ?_
  refine f_ret1 (F' := [(k8, C (arrL 146 (updV (updV z110 0 (.pointer (some ⟨bm, 0, none⟩))) 1 (.pointer (some ⟨bt, 0, none⟩)))) 94)]) hl hh rfl rfl (by repeat (first | exact keeps_nil | apply keeps_cons (by repeat (first | exact find_head | apply find_tail)) (by first  | rfl) | exact keeps_self | apply keeps_mv)) ?_
  exact ⟨k8, rfl, rfl⟩

set_option maxHeartbeats 1000000 in
theorem fresh_spec : Sp Tryz.prog 5 #[] [] (fun v F' => ∃ bg bm bt, v = .agg ⟨[.pointer (some ⟨bg, 0, none⟩), .pointer (some ⟨bm, 0, none⟩), .pointer (some ⟨bt, 0, none⟩)]⟩ ∧ F' = sysL bg (M00 bm bt)) := by
  refine f_enter (args := []) Tryz.func5 rfl Tryz.ntmps5 rfl ?_
  intro w0 w a hpre hl hh
  simp only [slotsFrom, Nat.reduceAdd] at hl
  refine c_seq ?_
  refine c_region ?_
  refine wl (w_alloc hl hh rfl trivial zero28 rfl ?_)
  clear hl hh a w; intro k0 a w hl hh
  refine w_nil ?_
  have hl2 := hl.add (t := 0) (hl.nil) rfl; clear hl; have hl := hl2; clear hl2
  refine then_normal ?_
  refine c_seq ?_
  refine c_region ?_
  refine wl (w_call hl hh rfl trivial rfl cal14 rfl (newM_spec) (by repeat (first | exact keeps_nil | apply keeps_cons (by repeat (first | exact find_head | apply find_tail)) (by first  | rfl) | exact keeps_self | apply keeps_mv)) trivial ?_)
  clear hl hh a w; intro vc Fc a w hR hl hh
  obtain ⟨bm, rfl, rfl⟩ := hR
  try simp only [List.cons_append, List.nil_append] at hh
  refine wl (w_call hl hh rfl trivial rfl cal15 rfl (newT_spec) (by repeat (first | exact keeps_nil | apply keeps_cons (by repeat (first | exact find_head | apply find_tail)) (by first  | rfl) | exact keeps_self | apply keeps_mv)) trivial ?_)
  clear hl hh a w; intro vc Fc a w hR hl hh
  obtain ⟨bt, rfl, rfl⟩ := hR
  try simp only [List.cons_append, List.nil_append] at hh
  refine wl (wl_val hl rfl trivial (r_assign hl rfl) ?_)
  clear hl a; intro a hl
  refine wl (wl_val hl rfl trivial (r_assign hl rfl) ?_)
  clear hl a; intro a hl
  refine w_nil ?_
  have hl2 := hl.add (t := 0) (hl.add (t := 1) (hl.add (t := 2) (hl.nil) rfl) rfl) rfl; clear hl; have hl := hl2; clear hl2
  refine then_normal ?_
  refine c_seq ?_
  refine c_region ?_
  refine wl (wl_val hl rfl trivial (r_move hl rfl) ?_)
  clear hl a; intro a hl
  refine wl (wl_val hl rfl trivial (r_move hl rfl) ?_)
  clear hl a; intro a hl
  refine wl (w_call hl hh rfl trivial rfl cal16 rfl (newG_spec bm bt) (by repeat (first | exact keeps_nil | apply keeps_cons (by repeat (first | exact find_head | apply find_tail)) (by first  | rfl) | exact keeps_self | apply keeps_mv)) trivial ?_)
  clear hl hh a w; intro vc Fc a w hR hl hh
  obtain ⟨bg, rfl, rfl⟩ := hR
  try simp only [List.cons_append, List.nil_append] at hh
  refine wl (wl_val hl rfl trivial (r_move hl rfl) ?_)
  clear hl a; intro a hl
  refine wl (wl_val hl rfl trivial (r_move hl rfl) ?_)
  clear hl a; intro a hl
  refine wl (wl_val hl rfl trivial (r_build hl rfl zero28 bld28 (by simp only [fillL, setL, List.getElem?_cons_zero, List.getElem?_cons_succ, Value.cells, List.take_zero, List.take_succ_cons, List.take_nil, List.drop_zero, List.drop_succ_cons, List.drop_nil, List.length_cons, List.length_nil, List.cons_append, List.nil_append, List.append_nil, Nat.zero_add, Nat.add_zero, Nat.reduceAdd, Nat.reduceBEq, Nat.reduceEqDiff, Nat.ble, BEq.rfl, Bool.and_true, Bool.and_self, cond_true, beq_self_eq_true]; rfl)) ?_)
  clear hl a; intro a hl
  refine wl (w_storeA hl hh trivial agg28 rfl rfl (by repeat (first | exact find_head | apply find_tail)) (by first | rfl | (simp; done)) (by first | (simp; done) | (simp; omega)) (by first | rfl | (simp; done)) (by first | (simp only [setL, List.getElem?_cons_zero, List.getElem?_cons_succ, Value.cells, List.take_zero, List.take_succ_cons, List.take_nil, List.drop_zero, List.drop_succ_cons, List.drop_nil, List.length_cons, List.length_nil, List.cons_append, List.nil_append, List.append_nil, Nat.zero_add, Nat.add_zero, Nat.reduceAdd, Nat.reduceBEq, Nat.reduceEqDiff, Nat.ble, BEq.rfl, Bool.and_true, Bool.and_self, cond_true, beq_self_eq_true]; rfl)) ?_)
  clear hh w; intro w hh
  refine w_nil ?_
  have hl2 := hl.add (t := 0) (hl.nil) rfl; clear hl; have hl := hl2; clear hl2
  refine then_normal ?_
  refine wp_ret ?_
  refine f_retC (F' := [(bg, C (arrL 146 (updV (updV z110 0 (.pointer (some ⟨bm, 0, none⟩))) 1 (.pointer (some ⟨bt, 0, none⟩)))) 94), (bm, C (arrL 16 (fun _ => .slice none 0 0)) 105), (bt, C (arrL 340 z117) 111)]) hl hh rfl rfl agg28 (by repeat (first | exact find_head | apply find_tail)) (by first | rfl | exact arrL_length _ _ | (simp; done)) (by repeat (first | exact keeps_nil | apply keeps_cons (by repeat (first | exact find_head | apply find_tail)) (by first  | rfl) | exact keeps_self | apply keeps_mv)) ?_
  exact ⟨bg, bm, bt, rfl, (sysL00 bg bm bt).symm⟩

theorem wsK_len {B Q : Int} {g : Gs} (hG : GI B Q g) (hq : BQ B Q) (c : Nat) : ∀ q, q < 16 → (wsK g.ws c q).length ≤ 100000000 := fun q hq9 => by
  unfold wsK; split
  · exact (hG.wb hq hq9).len
  · simp

set_option maxHeartbeats 2000000 in
theorem shard_spec {g : Gs} {M : Mm} (hS : SysF g M) (bg : Nat) (B Q : Int) (hq : BQ B Q) (hG : GI B Q g) (cc : Nat) (hc : cc < 4) : SpK Tryz.prog 33 #[.pointer (some ⟨bg, 0, none⟩), .int .i64 (cc : Int)] (Mem (sysL bg M)) [] (fun v F' => ∃ ev, v = .agg ⟨arrL 17 (shV (flK g.flr cc) ev)⟩ ∧ Row ev (edN (wsK g.ws cc) 16).length (fl egc (edN (wsK g.ws cc) 16)) 4 102 F') := by
  refine f_enter (args := [.pointer (some ⟨bg, 0, none⟩), .int .i64 (cc : Int)]) Tryz.func33 rfl Tryz.ntmps33 rfl ?_
  intro w0 w a hpre hl hh
  have hmG := hpre _ _ (List.mem_append_left _ (List.mem_cons_self ..))
  have hmF := (mem_app hpre).1
  simp only [slotsFrom, Nat.reduceAdd] at hl
  refine c_seq ?_
  refine c_region ?_
  refine wl (w_alloc hl hh rfl trivial zero46 rfl ?_)
  clear hl hh a w; intro k4 a w hl hh
  refine w_nil ?_
  have hl2 := hl.add (t := 0) (hl.add (t := 1) (hl.add (t := 4) (hl.nil) rfl) rfl) rfl; clear hl; have hl := hl2; clear hl2
  refine then_normal ?_
  refine c_seq ?_
  refine c_seq ?_
  refine c_region ?_
  refine wl (wl_val hl rfl trivial (r_move hl rfl) ?_)
  clear hl a; intro a hl
  refine wl (w_call hl hh rfl trivial rfl cal57 rfl (validCore_spec _) (by repeat (first | exact keeps_nil | apply keeps_cons (by repeat (first | exact find_head | apply find_tail | apply find_skip)) (by first  | rfl) | exact keeps_self | exact keeps_left | apply keeps_app | apply keeps_mv | apply keeps_skip)) trivial ?_)
  clear hl hh a w; intro vc Fc a w hR hl hh
  obtain ⟨rfl, rfl⟩ := hR
  try simp only [List.cons_append, List.nil_append, List.append_assoc, List.append_nil] at hh
  refine wl (wl_val hl rfl trivial (r_not hl rfl) ?_)
  clear hl a; intro a hl
  refine w_nil ?_
  have hl2 := hl.add (t := 0) (hl.add (t := 1) (hl.add (t := 4) (hl.add (t := 7) (hl.nil) rfl) rfl) rfl) rfl; clear hl; have hl := hl2; clear hl2
  refine then_normal ?_
  refine c_cond hl rfl ?_ ?_
  · intro hc0
    try simp only [decide_eq_true_eq, decide_eq_false_iff_not, Bool.not_eq_true', Bool.not_eq_false', Bool.not_eq_true, Bool.not_eq_false, Bool.and_eq_true, Bool.or_eq_true, Bool.and_eq_false_iff, Bool.or_eq_false_iff, Bool.not_not, ne_eq, Int.not_lt, Int.not_le, Decidable.not_not, beq_iff_eq, bne_iff_ne] at hc0
    exfalso; first | contradiction | omega
  · intro hc0
    try simp only [decide_eq_true_eq, decide_eq_false_iff_not, Bool.not_eq_true', Bool.not_eq_false', Bool.not_eq_true, Bool.not_eq_false, Bool.and_eq_true, Bool.or_eq_true, Bool.and_eq_false_iff, Bool.or_eq_false_iff, Bool.not_not, ne_eq, Int.not_lt, Int.not_le, Decidable.not_not, beq_iff_eq, bne_iff_ne] at hc0
    refine wp_skip ?_
    refine then_normal ?_
    refine c_seq ?_
    refine c_draw [(bg, C (arrL 146 M.fg) 94)] [13, 14] mixed hh ?_
    clear hh w; intro w hh
    have hM : Mem [(bg, C (arrL 146 M.fg) 94)] w := (by (repeat (first | exact Mem.nil | refine Mem.consR hh (by assumption) (by simp) ?_ | refine Mem.cons hh.mem (by (repeat (first | exact find_head | apply find_tail | apply find_skip)); done) ?_ | fail)); done)
    refine d_take (i := 0) hl rfl (by kernel_rfl) (by kernel_rfl) (by kernel_rfl) (by kernel_rfl) (by kernel_rfl) rfl trivial (fun _ _ _ h => h) hM (fun w hC => r_move hl rfl) rfl ?_
    clear hl a; intro a hl
    refine d_take (i := 1) hl rfl (by kernel_rfl) (by kernel_rfl) (by kernel_rfl) (by kernel_rfl) (by kernel_rfl) rfl trivial (fun _ _ _ h => h) hM (fun w hC => r_move hl rfl) rfl ?_
    clear hl a; intro a hl
    refine d_take (i := 2) hl rfl (by kernel_rfl) (by kernel_rfl) (by kernel_rfl) (by kernel_rfl) (by kernel_rfl) rfl trivial (fun _ _ _ h => h) hM (fun w hC => r_nilCheck hl rfl) rfl ?_
    clear hl a; intro a hl
    refine d_take (i := 3) hl rfl (by kernel_rfl) (by kernel_rfl) (by kernel_rfl) (by kernel_rfl) (by kernel_rfl) rfl trivial (fun _ _ _ h => h) hM (fun w hC => r_field hl rfl fld94_3) rfl ?_
    clear hl a; intro a hl
    refine d_take (i := 4) hl rfl (by kernel_rfl) (by kernel_rfl) (by kernel_rfl) (by kernel_rfl) (by kernel_rfl) rfl trivial (fun _ _ _ h => h) hM (fun w hC => r_indexA hl rfl rfl arr92 (by omega) (by omega) (by first | (simp only [Int.reduceToNat]; rfl) | exact toNat_add1 _ | exact toNat_add2 _ _ | exact toNat_emod _ _ | exact Int.toNat_natCast _ | rfl)) rfl ?_
    clear hl a; intro a hl
    refine d_take (i := 5) hl rfl (by kernel_rfl) (by kernel_rfl) (by kernel_rfl) (by kernel_rfl) (by kernel_rfl) rfl trivial (fun _ _ _ h => h) hM (fun w hC => r_field hl rfl fld91_0) rfl ?_
    clear hl a; intro a hl
    refine d_take (i := 6) hl rfl (by kernel_rfl) (by kernel_rfl) (by kernel_rfl) (by kernel_rfl) (by kernel_rfl) rfl trivial (fun _ _ _ h => h) hM (fun w hC => r_loadCA hl rfl agg43 hC (by repeat (first | exact find_head | apply find_tail | apply find_skip)) (by exact gr_floor hS.gr hc) (by exact arrL_length _ _)) rfl ?_
    clear hl a; intro a hl
    refine d_take (i := 7) hl rfl (by kernel_rfl) (by kernel_rfl) (by kernel_rfl) (by kernel_rfl) (by kernel_rfl) rfl trivial (fun _ _ _ h => h) hM (fun w hC => r_move hl rfl) rfl ?_
    clear hl a; intro a hl
    refine d_take (i := 8) hl rfl (by kernel_rfl) (by kernel_rfl) (by kernel_rfl) (by kernel_rfl) (by kernel_rfl) rfl trivial (fun _ _ _ h => h) hM (fun w hC => r_move hl rfl) rfl ?_
    clear hl a; intro a hl
    refine d_take (i := 9) hl rfl (by kernel_rfl) (by kernel_rfl) (by kernel_rfl) (by kernel_rfl) (by kernel_rfl) rfl trivial (fun _ _ _ h => h) hM (fun w hC => r_nilCheck hl rfl) rfl ?_
    clear hl a; intro a hl
    refine d_take (i := 10) hl rfl (by kernel_rfl) (by kernel_rfl) (by kernel_rfl) (by kernel_rfl) (by kernel_rfl) rfl trivial (fun _ _ _ h => h) hM (fun w hC => r_field hl rfl fld94_3) rfl ?_
    clear hl a; intro a hl
    refine d_take (i := 11) hl rfl (by kernel_rfl) (by kernel_rfl) (by kernel_rfl) (by kernel_rfl) (by kernel_rfl) rfl trivial (fun _ _ _ h => h) hM (fun w hC => r_indexA hl rfl rfl arr92 (by omega) (by omega) (by first | (simp only [Int.reduceToNat]; rfl) | exact toNat_add1 _ | exact toNat_add2 _ _ | exact toNat_emod _ _ | exact Int.toNat_natCast _ | rfl)) rfl ?_
    clear hl a; intro a hl
    refine d_one (i := 12) (by kernel_rfl) rfl ?_
    try clear hM
    refine id (w_call hl hh rfl trivial rfl cal58 rfl (edges_spec (ws := wsK g.ws cc) (E := fun q => M.Eg (16 * cc + q)) (fun q hq9 => (hS.gr.sh cc q hc hq9).row) hc bg (wsK_len hG hq cc)) (by repeat (first | exact keeps_nil | apply keeps_cons (by repeat (first | exact find_head | apply find_tail | apply find_skip)) (by first  | rfl) | exact keeps_self | exact keeps_left | apply keeps_app | apply keeps_mv | apply keeps_skip)) ⟨heap_keep hh hmG, fun q hq9 => mem_keep hh (mem_famR hmF (by omega))⟩ ?_)
    clear hl hh a w; intro vc Fc a w hR hl hh
    try simp only [List.cons_append, List.nil_append, List.append_assoc, List.append_nil] at hh
    have hRe := hR
    clear hR
    generalize Fc = Ee at hh hRe
    obtain ⟨p9, c9, hp9⟩ := row_val hRe
    subst hp9
    have hM : Mem [(bg, C (arrL 146 M.fg) 94)] w := (by (repeat (first | exact Mem.nil | refine Mem.consR hh (by assumption) (by simp) ?_ | refine Mem.cons hh.mem (by (repeat (first | exact find_head | apply find_tail | apply find_skip)); done) ?_ | fail)); done)
    refine d_step (fun _ => hM) ?_
    refine d_takeL (i := 13) hl rfl (by kernel_rfl) (by kernel_rfl) (by kernel_rfl) (by kernel_rfl) (by kernel_rfl) rfl trivial (fun _ _ _ h => h) (fun w => r_build hl rfl zero46 bld46 (fill61 rfl rfl (arrL_length _ _) rfl)) rfl ?_
    clear hl a; intro a hl
    rw [arrL_snoc] at hl
    refine d_one (i := 14) (by kernel_rfl) rfl ?_
    try clear hM
    refine id (w_storeA hl hh trivial agg46 rfl rfl (by repeat (first | exact find_head | apply find_tail | apply find_skip)) (by first | rfl | (simp; done) | exact arrL_length _ _) (by first | (simp; done) | (simp; omega) | (rw [arrL_length]; omega)) (by first | rfl | (simp; done) | exact arrL_all (fun j => ite_one rfl rfl)) (by first | exact setL_whole (arrL_length _ _) | (simp only [setL, List.getElem?_cons_zero, List.getElem?_cons_succ, Value.cells, List.take_zero, List.take_succ_cons, List.take_nil, List.drop_zero, List.drop_succ_cons, List.drop_nil, List.length_cons, List.length_nil, List.cons_append, List.nil_append, List.append_nil, Nat.zero_add, Nat.add_zero, Nat.reduceAdd, Nat.reduceBEq, Nat.reduceEqDiff, Nat.ble, BEq.rfl, Bool.and_true, Bool.and_self, cond_true, beq_self_eq_true]; rfl)) ?_)
    clear hh w; intro w hh
    refine d_step (fun h => absurd h (by decide)) ?_
    refine d_done (by kernel_rfl) ?_
    try clear hM
    have hl2 := hl.add (t := 4) (hl.nil) rfl; clear hl; have hl := hl2; clear hl2
    refine then_normal ?_
    refine wp_ret ?_
    refine f_retC (F' := Ee) hl hh rfl rfl agg46 (by repeat (first | exact find_head | apply find_tail | apply find_skip)) (by first | rfl | exact arrL_length _ _ | (simp; done)) (by repeat (first | exact keeps_nil | apply keeps_cons (by repeat (first | exact find_head | apply find_tail | apply find_skip)) (by first  | rfl) | exact keeps_self | exact keeps_left | apply keeps_app | apply keeps_mv | apply keeps_skip)) ?_
    exact ⟨_, rfl, hRe⟩

theorem stV_one {ep : Nat → Int} {fz : Nat → Nat → Int} {ev bv : Nat → Value} {wf : Nat → BitVec 16} (h1 : ∀ c, (ev c).oneCell' = true) (h2 : ∀ b, (bv b).oneCell' = true) : (arrL 116 (stV ep fz ev bv wf)).all (·.oneCell') = true :=
  arrL_all fun j => by unfold stV; exact ite_one rfl (ite_one (ite_one (h1 _) rfl) (ite_one (h2 _) rfl))
theorem upto_one {i : Nat} {f : Nat → Value} (h : ∀ j, j < i → (f j).oneCell' = true) (j : Nat) : (upto i f j).oneCell' = true := by
  unfold upto; split
  · exact h j (by assumption)
  · rfl
structure SZ0 (g : Gs) (z : SZ) : Prop where
  i : z.i ≤ 4
  r : ∀ c, c < z.i → Row (z.ev c) (edN (wsK g.ws c) 16).length (fl egc (edN (wsK g.ws c) 16)) 4 102 (z.Ee c)
structure SZ1 (g : Gs) (z : SZ) : Prop where
  i : z.i ≤ 16
  r : ∀ b, b < z.i → Row (z.ev b) (g.bx b).length (fl msc (g.bx b)) 7 77 (z.Ee b)
theorem SZ0.next {g : Gs} {z : SZ} {v : Value} {X : List (Nat × Obj)} (h : SZ0 g z) (hi : z.i < 4) (h2 : Row v (edN (wsK g.ws z.i) 16).length (fl egc (edN (wsK g.ws z.i) 16)) 4 102 X) : SZ0 g ⟨updV z.ev z.i v, updE z.Ee z.i X, z.i + 1⟩ := by
  refine ⟨by simp only; omega, fun c hc => ?_⟩
  simp only at hc ⊢
  by_cases e : c = z.i
  · subst e; rw [updV_self, updE_self]; exact h2
  · rw [updV_ne _ _ e, updE_ne _ _ e]; exact h.r c (by omega)
theorem SZ1.next {g : Gs} {z : SZ} {v : Value} {X : List (Nat × Obj)} (h : SZ1 g z) (hi : z.i < 16) (h2 : Row v (g.bx z.i).length (fl msc (g.bx z.i)) 7 77 X) : SZ1 g ⟨updV z.ev z.i v, updE z.Ee z.i X, z.i + 1⟩ := by
  refine ⟨by simp only; omega, fun c hc => ?_⟩
  simp only at hc ⊢
  by_cases e : c = z.i
  · subst e; rw [updV_self, updE_self]; exact h2
  · rw [updV_ne _ _ e, updE_ne _ _ e]; exact h.r c (by omega)
theorem st_z0 {ep : Nat → Int} {fz : Nat → Nat → Int} {bv : Nat → Value} {wf : Nat → BitVec 16} : C (arrL 116 (stV ep (fun _ _ => 0) (fun _ => .slice none 0 0) bv wf)) 52 = C (arrL 116 (stV ep (uptoF 0 fz) (upto 0 (fun _ => .slice none 0 0)) bv wf)) 52 :=
  congrArg (fun l => C l 52) (st_congr (fun c q _ _ => rfl) (fun c _ => rfl) (fun b _ => rfl))
theorem st_z1 {ep : Nat → Int} {fz : Nat → Nat → Int} {ev : Nat → Value} {wf : Nat → BitVec 16} : C (arrL 116 (stV ep (uptoF 4 fz) (upto 4 ev) (fun _ => .slice none 0 0) wf)) 52 = C (arrL 116 (stV ep fz ev (upto 0 (fun _ => .slice none 0 0)) wf)) 52 :=
  congrArg (fun l => C l 52) (st_congr (fun c q h _ => by unfold uptoF; rw [if_pos h]) (fun c h => by unfold upto; rw [if_pos h]) (fun b _ => rfl))
theorem st_z2 {ep : Nat → Int} {fz : Nat → Nat → Int} {ev bv : Nat → Value} {wf : Nat → BitVec 16} : arrL 116 (stV ep fz ev (upto 16 bv) wf) = arrL 116 (stV ep fz ev bv wf) :=
  st_congr (fun c q h _ => rfl) (fun c h => rfl) (fun b h => by unfold upto; rw [if_pos h])

set_option maxHeartbeats 4000000 in
theorem snap_spec {g : Gs} {M : Mm} (hS : SysF g M) (bg : Nat) (B Q : Int) (hq : BQ B Q) (hG : GI B Q g) : SpK Tryz.prog 9 #[.pointer (some ⟨bg, 0, none⟩)] (Mem (sysL bg M)) [] (fun v F' => ∃ ev bv Ee Eb, v = .agg ⟨snC g ev bv⟩ ∧ SnR g ev bv Ee Eb ∧ F' = fam Ee 4 ++ fam Eb 16) := by
  refine f_enter (args := [.pointer (some ⟨bg, 0, none⟩)]) Tryz.func9 rfl Tryz.ntmps9 rfl ?_
  intro w0 w a hpre hl hh
  have hmG := hpre _ _ (List.mem_append_left _ (List.mem_cons_self ..))
  have hmF := (mem_app hpre).1
  have hmM := (mem_app (mem_app hpre).2).1
  have hmT := (mem_app (mem_app hpre).2).2
  simp only [slotsFrom, Nat.reduceAdd] at hl
  refine c_seq ?_
  refine c_region ?_
  refine wl (w_alloc hl hh rfl trivial zero52 rfl ?_)
  clear hl hh a w; intro k2 a w hl hh
  refine w_nil ?_
  have hl2 := hl.add (t := 0) (hl.add (t := 2) (hl.nil) rfl) rfl; clear hl; have hl := hl2; clear hl2
  refine then_normal ?_
  refine c_seq ?_
  refine c_draw [(bg, C (arrL 146 M.fg) 94)] [11] mixed hh ?_
  clear hh w; intro w hh
  have hM : Mem [(bg, C (arrL 146 M.fg) 94)] w := (by (repeat (first | exact Mem.nil | refine Mem.consR hh (by assumption) (by simp) ?_ | refine Mem.cons hh.mem (by (repeat (first | exact find_head | apply find_tail | apply find_skip)); done) ?_ | fail)); done)
  refine d_take (i := 0) hl rfl (by kernel_rfl) (by kernel_rfl) (by kernel_rfl) (by kernel_rfl) (by kernel_rfl) rfl trivial (fun _ _ _ h => h) hM (fun w hC => r_move hl rfl) rfl ?_
  clear hl a; intro a hl
  refine d_take (i := 1) hl rfl (by kernel_rfl) (by kernel_rfl) (by kernel_rfl) (by kernel_rfl) (by kernel_rfl) rfl trivial (fun _ _ _ h => h) hM (fun w hC => r_nilCheck hl rfl) rfl ?_
  clear hl a; intro a hl
  refine d_take (i := 2) hl rfl (by kernel_rfl) (by kernel_rfl) (by kernel_rfl) (by kernel_rfl) (by kernel_rfl) rfl trivial (fun _ _ _ h => h) hM (fun w hC => r_field hl rfl fld94_2) rfl ?_
  clear hl a; intro a hl
  refine d_take (i := 3) hl rfl (by kernel_rfl) (by kernel_rfl) (by kernel_rfl) (by kernel_rfl) (by kernel_rfl) rfl trivial (fun _ _ _ h => h) hM (fun w hC => r_loadCA hl rfl agg43 hC (by repeat (first | exact find_head | apply find_tail | apply find_skip)) (by exact gr_eps hS.gr) (by exact arrL_length _ _)) rfl ?_
  clear hl a; intro a hl
  refine d_take (i := 4) hl rfl (by kernel_rfl) (by kernel_rfl) (by kernel_rfl) (by kernel_rfl) (by kernel_rfl) rfl trivial (fun _ _ _ h => h) hM (fun w hC => r_move hl rfl) rfl ?_
  clear hl a; intro a hl
  refine d_take (i := 5) hl rfl (by kernel_rfl) (by kernel_rfl) (by kernel_rfl) (by kernel_rfl) (by kernel_rfl) rfl trivial (fun _ _ _ h => h) hM (fun w hC => r_nilCheck hl rfl) rfl ?_
  clear hl a; intro a hl
  refine d_take (i := 6) hl rfl (by kernel_rfl) (by kernel_rfl) (by kernel_rfl) (by kernel_rfl) (by kernel_rfl) rfl trivial (fun _ _ _ h => h) hM (fun w hC => r_field hl rfl fld94_1) rfl ?_
  clear hl a; intro a hl
  refine d_take (i := 7) hl rfl (by kernel_rfl) (by kernel_rfl) (by kernel_rfl) (by kernel_rfl) (by kernel_rfl) rfl trivial (fun _ _ _ h => h) hM (fun w hC => r_loadC hl rfl one26 hC (by repeat (first | exact find_head | apply find_tail | apply find_skip)) (by first | exact fg_p1 hS.gr.p1 | rfl)) rfl ?_
  clear hl a; intro a hl
  refine d_two (i := 8) (j := 10) (by kernel_rfl) rfl rfl ?_ ?_
  ·
    try clear hM
    refine id (w_call hl hh rfl trivial rfl cal27 rfl (waitsFor_spec hS.tb M.bt hG.ti) (by repeat (first | exact keeps_nil | apply keeps_cons (by repeat (first | exact find_head | apply find_tail | apply find_skip)) (by first  | rfl) | exact keeps_self | exact keeps_left | apply keeps_app | apply keeps_mv | apply keeps_skip)) (mem_keep hh hmT) ?_)
    clear hl hh a w; intro vc Fc a w hR hl hh
    obtain ⟨rfl, rfl⟩ := hR
    try simp only [List.cons_append, List.nil_append, List.append_assoc, List.append_nil] at hh
    have hM : Mem [(bg, C (arrL 146 M.fg) 94)] w := (by (repeat (first | exact Mem.nil | refine Mem.consR hh (by assumption) (by simp) ?_ | refine Mem.cons hh.mem (by (repeat (first | exact find_head | apply find_tail | apply find_skip)); done) ?_ | fail)); done)
    refine d_step (fun _ => hM) ?_
    refine d_take (i := 9) hl rfl (by kernel_rfl) (by kernel_rfl) (by kernel_rfl) (by kernel_rfl) (by kernel_rfl) rfl trivial (fun _ _ _ h => h) hM (fun w hC => r_build hl rfl zero52 bld52 (fill75 rfl rfl rfl rfl)) rfl ?_
    clear hl a; intro a hl
    refine d_one (i := 10) (by kernel_rfl) rfl ?_
    try clear hM
    refine id (w_alloc hl hh rfl trivial zero52 rfl ?_)
    clear hl hh a w; intro k3 a w hl hh
    have hM : Mem [(bg, C (arrL 146 M.fg) 94)] w := (by (repeat (first | exact Mem.nil | refine Mem.consR hh (by assumption) (by simp) ?_ | refine Mem.cons hh.mem (by (repeat (first | exact find_head | apply find_tail | apply find_skip)); done) ?_ | fail)); done)
    refine d_step (fun _ => hM) ?_
    refine d_one (i := 11) (by kernel_rfl) rfl ?_
    try clear hM
    refine id (w_storeA hl hh trivial agg52 rfl rfl (by repeat (first | exact find_head | apply find_tail | apply find_skip)) (by exact arrL_length _ _) (by first | exact Nat.le_of_eq (arrL_length _ _).symm | (rw [arrL_length]; exact Nat.le_refl _)) (by first | exact stV_one (fun _ => rfl) (fun _ => rfl) | exact stV_one2 (fun c hc => (hZr c hc).one) (fun b hb => (hYr b hb).one)) (by exact setL_whole (by rw [arrL_length, arrL_length])) ?_)
    clear hh w; intro w hh
    refine d_step (fun h => absurd h (by decide)) ?_
    refine d_done (by kernel_rfl) ?_
    try clear hM
    have hl2 := hl.add (t := 0) (hl.add (t := 2) (hl.add (t := 3) (hl.nil) rfl) rfl) rfl; clear hl; have hl := hl2; clear hl2
    refine then_normal ?_
    refine c_seq ?_
    refine c_seq ?_
    refine c_region ?_
    refine wl (wl_val hl rfl trivial (r_move hl rfl) ?_)
    clear hl a; intro a hl
    refine w_nil ?_
    have hl2 := hl.add (t := 0) (hl.add (t := 2) (hl.add (t := 3) (hl.add (t := 16) (hl.nil) rfl) rfl) rfl) rfl; clear hl; have hl := hl2; clear hl2
    refine then_normal ?_
    refine wp_block ?_
    obtain ⟨KS0, hKS0, hk⟩ := (hl.add (t := 0) (hl.add (t := 2) (hl.add (t := 3) (hl.nil) rfl) rfl) rfl).name
    obtain ⟨HS0, hHS0, hh2⟩ := hh.nameT (A := [(k3, C (arrL 116 (stV g.ep (uptoF 0 (flK g.flr)) (upto 0 (fun _ => .slice none 0 0)) (fun _ => .slice none 0 0) (wfN g.tb 20))) 52)]) (U := (fam (fun _ => []) 0)) (keeps_cons (b := k3) (o' := C (arrL 116 (stV g.ep (uptoF 0 (flK g.flr)) (upto 0 (fun _ => .slice none 0 0)) (fun _ => .slice none 0 0) (wfN g.tb 20))) 52) (by repeat (first | exact find_head | apply find_tail | apply find_skip)) (by first | exact st_z0 | rfl) ((by rw [fam0]; repeat (first | exact keeps_nil | exact keeps_self | exact keeps_left | apply keeps_app | apply keeps_mv | apply keeps_skip))))
    refine c_loop (α := SZ) (fun z => 4 - z.i) (fun z a w => (SZ0 g z) ∧ Sl 40 ([(16, .int .i64 (z.i : Int))] ++ KS0) a ∧ Has _ w0 ([(k3, C (arrL 116 (stV g.ep (uptoF z.i (flK g.flr)) (upto z.i z.ev) (fun _ => .slice none 0 0) (wfN g.tb 20))) 52)] ++ (HS0 ++ (fam z.Ee z.i))) w) ⟨(fun _ => .slice none 0 0), fun _ => [], 0⟩ ⟨⟨Nat.zero_le _, fun c hc => absurd hc (Nat.not_lt_zero _)⟩, hl.addE (t := 16) (hk) rfl (by first | rfl), hh2⟩ ?_
    clear hk hh2 hl hh a w
    intro z a w hI
    obtain ⟨hZ, hl, hh⟩ := hI
    subst hKS0; subst hHS0
    simp only [List.cons_append, List.nil_append, List.append_nil, List.append_assoc] at hl hh
    have hzi := hZ.i
    refine c_seq ?_
    refine c_region ?_
    refine wl (wl_val hl rfl trivial (r_lss hl rfl rfl) ?_)
    clear hl a; intro a hl
    refine w_nil ?_
    have hl2 := hl.add (t := 0) (hl.add (t := 2) (hl.add (t := 3) (hl.add (t := 16) (hl.add (t := 17) (hl.nil) rfl) rfl) rfl) rfl) rfl; clear hl; have hl := hl2; clear hl2
    refine then_normal ?_
    refine c_seq ?_
    refine c_cond hl rfl ?_ ?_
    · intro hc0
      try simp only [decide_eq_true_eq, decide_eq_false_iff_not, Bool.not_eq_true', Bool.not_eq_false', Bool.not_eq_true, Bool.not_eq_false, Bool.and_eq_true, Bool.or_eq_true, Bool.and_eq_false_iff, Bool.or_eq_false_iff, Bool.not_not, ne_eq, Int.not_lt, Int.not_le, Decidable.not_not, beq_iff_eq, bne_iff_ne] at hc0
      refine wp_skip ?_
      refine then_normal ?_
      refine c_seq ?_
      refine wp_block ?_
      refine c_seq ?_
      refine c_region ?_
      refine wl (wl_val hl rfl trivial (r_move hl rfl) ?_)
      clear hl a; intro a hl
      refine wl (wl_val hl rfl trivial (r_assign hl rfl) ?_)
      clear hl a; intro a hl
      refine w_nil ?_
      have hl2 := hl.add (t := 0) (hl.add (t := 2) (hl.add (t := 3) (hl.add (t := 4) (hl.add (t := 16) (hl.nil) rfl) rfl) rfl) rfl) rfl; clear hl; have hl := hl2; clear hl2
      refine then_normal ?_
      refine c_region ?_
      refine wl (wl_val hl rfl trivial (r_move hl rfl) ?_)
      clear hl a; intro a hl
      refine wl (wl_val hl rfl trivial (r_move hl rfl) ?_)
      clear hl a; intro a hl
      refine wl (wl_val hl rfl trivial (r_move hl rfl) ?_)
      clear hl a; intro a hl
      refine wl (w_call hl hh rfl trivial rfl cal33 rfl (shard_spec hS bg B Q hq hG z.i (by omega)) (by repeat (first | exact keeps_nil | apply keeps_cons (by repeat (first | exact find_head | apply find_tail | apply find_skip)) (by first  | rfl) | exact keeps_self | exact keeps_left | apply keeps_app | apply keeps_mv | apply keeps_skip)) (mem_keep hh hpre) ?_)
      clear hl hh a w; intro vc Fc a w hR hl hh
      obtain ⟨ve, rfl, hRe⟩ := hR
      try simp only [List.cons_append, List.nil_append, List.append_assoc, List.append_nil] at hh
      generalize Fc = X at hh hRe
      refine wl (wl_val hl rfl trivial (r_field hl rfl fld52_1) ?_)
      clear hl a; intro a hl
      refine wl (wl_val hl rfl trivial (r_indexA hl rfl rfl arr47 (by omega) (by omega) (by first | (simp only [Int.reduceToNat]; rfl) | exact toNat_add1 _ | exact toNat_add2 _ _ | exact toNat_emod _ _ | exact Int.toNat_natCast _ | rfl)) ?_)
      clear hl a; intro a hl
      refine wl (w_storeA hl hh trivial agg46 rfl rfl (by repeat (first | exact find_head | apply find_tail | apply find_skip)) (by first | rfl | (simp; done) | exact arrL_length _ _) (by first | (simp; done) | (simp; omega) | (rw [arrL_length]; omega)) (by first | rfl | (simp; done) | exact arrL_all (fun j => ite_one hRe.one rfl)) (by first | exact st_shard (by omega) | exact st_box (by omega) | (simp only [setL, List.getElem?_cons_zero, List.getElem?_cons_succ, Value.cells, List.take_zero, List.take_succ_cons, List.take_nil, List.drop_zero, List.drop_succ_cons, List.drop_nil, List.length_cons, List.length_nil, List.cons_append, List.nil_append, List.append_nil, Nat.zero_add, Nat.add_zero, Nat.reduceAdd, Nat.reduceBEq, Nat.reduceEqDiff, Nat.ble, BEq.rfl, Bool.and_true, Bool.and_self, cond_true, beq_self_eq_true]; rfl)) ?_)
      clear hh w; intro w hh
      refine w_nil ?_
      have hl2 := hl.add (t := 0) (hl.add (t := 2) (hl.add (t := 3) (hl.add (t := 16) (hl.nil) rfl) rfl) rfl) rfl; clear hl; have hl := hl2; clear hl2
      refine blk_normal ?_
      refine then_normal ?_
      refine c_region ?_
      first | refine wl (wl_val hl rfl trivial (r_add hl rfl rfl (by simp only [Fits]; omega)) ?_) | refine wl (wl_val hl rfl trivial (r_addW hl rfl rfl) ?_)
      clear hl a; intro a hl
      refine wl (wl_val hl rfl trivial (r_move hl rfl) ?_)
      clear hl a; intro a hl
      refine w_nil ?_
      have hl2 := hl.add (t := 0) (hl.add (t := 2) (hl.add (t := 3) (hl.add (t := 16) (hl.nil) rfl) rfl) rfl) rfl; clear hl; have hl := hl2; clear hl2
      refine then_normal ?_
      refine ⟨⟨updV z.ev z.i ve, updE z.Ee z.i X, z.i + 1⟩, (by simp only; omega), (hZ.next (by omega) hRe), hl.addE (t := 16) (hl.addE (t := 0) (hl.addE (t := 2) (hl.addE (t := 3) (hl.nil) rfl (by first | rfl | (congr 1; omega))) rfl (by first | rfl | (congr 1; omega))) rfl (by first | rfl | (congr 1; omega))) rfl (by first | rfl | (congr 1; omega)), (by dsimp only; rw [fam_snoc]; exact hh.keep (by repeat (first | exact keeps_nil | apply keeps_cons (by repeat (first | exact find_head | apply find_tail | apply find_skip)) (by first  | rfl) | exact keeps_self | exact keeps_left | apply keeps_app | apply keeps_mv | apply keeps_skip)))⟩
    · intro hc0
      try simp only [decide_eq_true_eq, decide_eq_false_iff_not, Bool.not_eq_true', Bool.not_eq_false', Bool.not_eq_true, Bool.not_eq_false, Bool.and_eq_true, Bool.or_eq_true, Bool.and_eq_false_iff, Bool.or_eq_false_iff, Bool.not_not, ne_eq, Int.not_lt, Int.not_le, Decidable.not_not, beq_iff_eq, bne_iff_ne] at hc0
      have hz4 : z.i = 4 := by omega
      rw [hz4, st_z1] at hh
      refine wp_exit ?_
      refine then_exit ?_
      refine then_exit ?_
      refine blk_exit ?_
      refine then_normal ?_
      refine c_seq ?_
      refine c_seq ?_
      refine c_region ?_
      refine wl (wl_val hl rfl trivial (r_move hl rfl) ?_)
      clear hl a; intro a hl
      refine w_nil ?_
      have hl2 := hl.add (t := 0) (hl.add (t := 2) (hl.add (t := 3) (hl.add (t := 26) (hl.nil) rfl) rfl) rfl) rfl; clear hl; have hl := hl2; clear hl2
      refine then_normal ?_
      refine wp_block ?_
      obtain ⟨KS1, hKS1, hk⟩ := (hl.add (t := 0) (hl.add (t := 2) (hl.add (t := 3) (hl.nil) rfl) rfl) rfl).name
      obtain ⟨HS1, hHS1, hh2⟩ := hh.nameT (A := [(k3, C (arrL 116 (stV g.ep (flK g.flr) z.ev (upto 0 (fun _ => .slice none 0 0)) (wfN g.tb 20))) 52)]) (U := (fam (fun _ => []) 0)) (keeps_cons (b := k3) (o' := C (arrL 116 (stV g.ep (flK g.flr) z.ev (upto 0 (fun _ => .slice none 0 0)) (wfN g.tb 20))) 52) (by repeat (first | exact find_head | apply find_tail | apply find_skip)) (by first | rfl) ((by rw [fam0]; repeat (first | exact keeps_nil | exact keeps_self | exact keeps_left | apply keeps_app | apply keeps_mv | apply keeps_skip))))
      refine c_loop (α := SZ) (fun y => 16 - y.i) (fun y a w => (SZ1 g y) ∧ Sl 40 ([(26, .int .i64 (y.i : Int))] ++ KS1) a ∧ Has _ w0 ([(k3, C (arrL 116 (stV g.ep (flK g.flr) z.ev (upto y.i y.ev) (wfN g.tb 20))) 52)] ++ (HS1 ++ (fam y.Ee y.i))) w) ⟨(fun _ => .slice none 0 0), fun _ => [], 0⟩ ⟨⟨Nat.zero_le _, fun c hc => absurd hc (Nat.not_lt_zero _)⟩, hl.addE (t := 26) (hk) rfl (by first | rfl), hh2⟩ ?_
      clear hk hh2 hl hh a w
      intro y a w hI
      obtain ⟨hY, hl, hh⟩ := hI
      subst hKS1; subst hHS1
      simp only [List.cons_append, List.nil_append, List.append_nil, List.append_assoc] at hl hh
      have hyi := hY.i
      refine c_seq ?_
      refine c_region ?_
      refine wl (wl_val hl rfl trivial (r_lss hl rfl rfl) ?_)
      clear hl a; intro a hl
      refine w_nil ?_
      have hl2 := hl.add (t := 0) (hl.add (t := 2) (hl.add (t := 3) (hl.add (t := 26) (hl.add (t := 27) (hl.nil) rfl) rfl) rfl) rfl) rfl; clear hl; have hl := hl2; clear hl2
      refine then_normal ?_
      refine c_seq ?_
      refine c_cond hl rfl ?_ ?_
      · intro hc1
        try simp only [decide_eq_true_eq, decide_eq_false_iff_not, Bool.not_eq_true', Bool.not_eq_false', Bool.not_eq_true, Bool.not_eq_false, Bool.and_eq_true, Bool.or_eq_true, Bool.and_eq_false_iff, Bool.or_eq_false_iff, Bool.not_not, ne_eq, Int.not_lt, Int.not_le, Decidable.not_not, beq_iff_eq, bne_iff_ne] at hc1
        refine wp_skip ?_
        refine then_normal ?_
        refine c_seq ?_
        refine wp_block ?_
        refine c_seq ?_
        refine c_region ?_
        refine wl (wl_val hl rfl trivial (r_move hl rfl) ?_)
        clear hl a; intro a hl
        refine wl (wl_val hl rfl trivial (r_assign hl rfl) ?_)
        clear hl a; intro a hl
        refine w_nil ?_
        have hl2 := hl.add (t := 0) (hl.add (t := 2) (hl.add (t := 3) (hl.add (t := 5) (hl.add (t := 26) (hl.nil) rfl) rfl) rfl) rfl) rfl; clear hl; have hl := hl2; clear hl2
        refine then_normal ?_
        refine c_region ?_
        refine wl (wl_val hl rfl trivial (r_move hl rfl) ?_)
        clear hl a; intro a hl
        refine wl (wl_val hl rfl trivial (r_move hl rfl) ?_)
        clear hl a; intro a hl
        refine wl (wl_val hl rfl trivial (r_nilCheck hl rfl) ?_)
        clear hl a; intro a hl
        refine wl (wl_val hl rfl trivial (r_field hl rfl fld94_0) ?_)
        clear hl a; intro a hl
        first | refine wl (w_load hl hh rfl trivial one25 rfl (by repeat (first | exact find_head | apply find_tail | apply find_skip)) (by first | exact fg_p1 hS.gr.p1 | rfl) ?_) | refine wl (w_loadR hl hh rfl trivial one25 rfl hmG (by simp) (fg_p0 hS.gr.p0) ?_)
        clear hl a; intro a hl
        refine wl (wl_val hl rfl trivial (r_move hl rfl) ?_)
        clear hl a; intro a hl
        refine wl (w_call hl hh rfl trivial rfl cal34 rfl (pending_spec hS.mc M.bm hG.b32 y.i (by omega)) (by repeat (first | exact keeps_nil | apply keeps_cons (by repeat (first | exact find_head | apply find_tail | apply find_skip)) (by first  | rfl) | exact keeps_self | exact keeps_left | apply keeps_app | apply keeps_mv | apply keeps_skip)) (mem_keep hh hmM) ?_)
        clear hl hh a w; intro vc Fc a w hR hl hh
        try simp only [List.cons_append, List.nil_append, List.append_assoc, List.append_nil] at hh
        have hRb := hR
        clear hR
        generalize Fc = X at hh hRb
        generalize vc = vb at hl hRb
        refine wl (wl_val hl rfl trivial (r_field hl rfl fld52_2) ?_)
        clear hl a; intro a hl
        refine wl (wl_val hl rfl trivial (r_indexA hl rfl rfl arr49 (by omega) (by omega) (by first | (simp only [Int.reduceToNat]; rfl) | exact toNat_add1 _ | exact toNat_add2 _ _ | exact toNat_emod _ _ | exact Int.toNat_natCast _ | rfl)) ?_)
        clear hl a; intro a hl
        refine wl (w_store hl hh trivial one48 rfl rfl (by repeat (first | exact find_head | apply find_tail | apply find_skip)) (by first | (simp; done) | (simp; omega) | (rw [arrL_length]; omega)) (by first | rfl | assumption | (apply Row.one; assumption)) (by first | exact st_shard (by omega) | exact st_box (by omega) | (simp only [setL, List.getElem?_cons_zero, List.getElem?_cons_succ, Value.cells, List.take_zero, List.take_succ_cons, List.take_nil, List.drop_zero, List.drop_succ_cons, List.drop_nil, List.length_cons, List.length_nil, List.cons_append, List.nil_append, List.append_nil, Nat.zero_add, Nat.add_zero, Nat.reduceAdd, Nat.reduceBEq, Nat.reduceEqDiff, Nat.ble, BEq.rfl, Bool.and_true, Bool.and_self, cond_true, beq_self_eq_true]; rfl)) ?_)
        clear hh w; intro w hh
        refine w_nil ?_
        have hl2 := hl.add (t := 0) (hl.add (t := 2) (hl.add (t := 3) (hl.add (t := 26) (hl.nil) rfl) rfl) rfl) rfl; clear hl; have hl := hl2; clear hl2
        refine blk_normal ?_
        refine then_normal ?_
        refine c_region ?_
        first | refine wl (wl_val hl rfl trivial (r_add hl rfl rfl (by simp only [Fits]; omega)) ?_) | refine wl (wl_val hl rfl trivial (r_addW hl rfl rfl) ?_)
        clear hl a; intro a hl
        refine wl (wl_val hl rfl trivial (r_move hl rfl) ?_)
        clear hl a; intro a hl
        refine w_nil ?_
        have hl2 := hl.add (t := 0) (hl.add (t := 2) (hl.add (t := 3) (hl.add (t := 26) (hl.nil) rfl) rfl) rfl) rfl; clear hl; have hl := hl2; clear hl2
        refine then_normal ?_
        refine ⟨⟨updV y.ev y.i vb, updE y.Ee y.i X, y.i + 1⟩, (by simp only; omega), (hY.next (by omega) hRb), hl.addE (t := 26) (hl.addE (t := 0) (hl.addE (t := 2) (hl.addE (t := 3) (hl.nil) rfl (by first | rfl | (congr 1; omega))) rfl (by first | rfl | (congr 1; omega))) rfl (by first | rfl | (congr 1; omega))) rfl (by first | rfl | (congr 1; omega)), (by dsimp only; rw [fam_snoc]; exact hh.keep (by repeat (first | exact keeps_nil | apply keeps_cons (by repeat (first | exact find_head | apply find_tail | apply find_skip)) (by first  | rfl) | exact keeps_self | exact keeps_left | apply keeps_app | apply keeps_mv | apply keeps_skip)))⟩
      · intro hc1
        try simp only [decide_eq_true_eq, decide_eq_false_iff_not, Bool.not_eq_true', Bool.not_eq_false', Bool.not_eq_true, Bool.not_eq_false, Bool.and_eq_true, Bool.or_eq_true, Bool.and_eq_false_iff, Bool.or_eq_false_iff, Bool.not_not, ne_eq, Int.not_lt, Int.not_le, Decidable.not_not, beq_iff_eq, bne_iff_ne] at hc1
        have hy16 : y.i = 16 := by omega
        rw [hy16, st_z2] at hh
        have hZr := hZ.r; have hYr := hY.r
        rw [hz4] at hZr
        rw [hy16] at hYr
        refine wp_exit ?_
        refine then_exit ?_
        refine then_exit ?_
        refine blk_exit ?_
        refine then_normal ?_
        refine c_seq ?_
        refine c_region ?_
        refine wl (w_loadA hl hh rfl trivial agg52 rfl (by repeat (first | exact find_head | apply find_tail | apply find_skip)) (by exact arr_whole116 _) (by exact arrL_length _ _) ?_)
        clear hl a; intro a hl
        refine wl (w_storeA hl hh trivial agg52 rfl rfl (by repeat (first | exact find_head | apply find_tail | apply find_skip)) (by exact arrL_length _ _) (by first | exact Nat.le_of_eq (arrL_length _ _).symm | (rw [arrL_length]; exact Nat.le_refl _)) (by first | exact stV_one (fun _ => rfl) (fun _ => rfl) | exact stV_one2 (fun c hc => (hZr c hc).one) (fun b hb => (hYr b hb).one)) (by exact setL_whole (by rw [arrL_length, arrL_length])) ?_)
        clear hh w; intro w hh
        refine w_nil ?_
        have hl2 := hl.add (t := 2) (hl.nil) rfl; clear hl; have hl := hl2; clear hl2
        refine then_normal ?_
        refine wp_ret ?_
        refine f_retC (F' := (fam z.Ee 4 ++ fam y.Ee 16)) hl hh rfl rfl agg52 (by repeat (first | exact find_head | apply find_tail | apply find_skip)) (by first | rfl | exact arrL_length _ _ | (simp; done)) (by repeat (first | exact keeps_nil | apply keeps_cons (by repeat (first | exact find_head | apply find_tail | apply find_skip)) (by first  | rfl) | exact keeps_self | exact keeps_left | apply keeps_app | apply keeps_mv | apply keeps_skip)) ?_
        exact ⟨z.ev, y.ev, z.Ee, y.Ee, rfl, ⟨hZr, hYr⟩, rfl⟩
  ·
    try clear hM
    refine id (w_alloc hl hh rfl trivial zero52 rfl ?_)
    clear hl hh a w; intro k3 a w hl hh
    have hM : Mem [(bg, C (arrL 146 M.fg) 94)] w := (by (repeat (first | exact Mem.nil | refine Mem.consR hh (by assumption) (by simp) ?_ | refine Mem.cons hh.mem (by (repeat (first | exact find_head | apply find_tail | apply find_skip)); done) ?_ | fail)); done)
    refine d_step (fun _ => hM) ?_
    refine d_one (i := 8) (by kernel_rfl) rfl ?_
    try clear hM
    refine id (w_call hl hh rfl trivial rfl cal27 rfl (waitsFor_spec hS.tb M.bt hG.ti) (by repeat (first | exact keeps_nil | apply keeps_cons (by repeat (first | exact find_head | apply find_tail | apply find_skip)) (by first  | rfl) | exact keeps_self | exact keeps_left | apply keeps_app | apply keeps_mv | apply keeps_skip)) (mem_keep hh hmT) ?_)
    clear hl hh a w; intro vc Fc a w hR hl hh
    obtain ⟨rfl, rfl⟩ := hR
    try simp only [List.cons_append, List.nil_append, List.append_assoc, List.append_nil] at hh
    have hM : Mem [(bg, C (arrL 146 M.fg) 94)] w := (by (repeat (first | exact Mem.nil | refine Mem.consR hh (by assumption) (by simp) ?_ | refine Mem.cons hh.mem (by (repeat (first | exact find_head | apply find_tail | apply find_skip)); done) ?_ | fail)); done)
    refine d_step (fun _ => hM) ?_
    refine d_take (i := 9) hl rfl (by kernel_rfl) (by kernel_rfl) (by kernel_rfl) (by kernel_rfl) (by kernel_rfl) rfl trivial (fun _ _ _ h => h) hM (fun w hC => r_build hl rfl zero52 bld52 (fill75 rfl rfl rfl rfl)) rfl ?_
    clear hl a; intro a hl
    refine d_one (i := 11) (by kernel_rfl) rfl ?_
    try clear hM
    refine id (w_storeA hl hh trivial agg52 rfl rfl (by repeat (first | exact find_head | apply find_tail | apply find_skip)) (by exact arrL_length _ _) (by first | exact Nat.le_of_eq (arrL_length _ _).symm | (rw [arrL_length]; exact Nat.le_refl _)) (by first | exact stV_one (fun _ => rfl) (fun _ => rfl) | exact stV_one2 (fun c hc => (hZr c hc).one) (fun b hb => (hYr b hb).one)) (by exact setL_whole (by rw [arrL_length, arrL_length])) ?_)
    clear hh w; intro w hh
    refine d_step (fun h => absurd h (by decide)) ?_
    refine d_done (by kernel_rfl) ?_
    try clear hM
    have hl2 := hl.add (t := 0) (hl.add (t := 2) (hl.add (t := 3) (hl.nil) rfl) rfl) rfl; clear hl; have hl := hl2; clear hl2
    refine then_normal ?_
    refine c_seq ?_
    refine c_seq ?_
    refine c_region ?_
    refine wl (wl_val hl rfl trivial (r_move hl rfl) ?_)
    clear hl a; intro a hl
    refine w_nil ?_
    have hl2 := hl.add (t := 0) (hl.add (t := 2) (hl.add (t := 3) (hl.add (t := 16) (hl.nil) rfl) rfl) rfl) rfl; clear hl; have hl := hl2; clear hl2
    refine then_normal ?_
    refine wp_block ?_
    obtain ⟨KS0, hKS0, hk⟩ := (hl.add (t := 0) (hl.add (t := 2) (hl.add (t := 3) (hl.nil) rfl) rfl) rfl).name
    obtain ⟨HS0, hHS0, hh2⟩ := hh.nameT (A := [(k3, C (arrL 116 (stV g.ep (uptoF 0 (flK g.flr)) (upto 0 (fun _ => .slice none 0 0)) (fun _ => .slice none 0 0) (wfN g.tb 20))) 52)]) (U := (fam (fun _ => []) 0)) (keeps_cons (b := k3) (o' := C (arrL 116 (stV g.ep (uptoF 0 (flK g.flr)) (upto 0 (fun _ => .slice none 0 0)) (fun _ => .slice none 0 0) (wfN g.tb 20))) 52) (by repeat (first | exact find_head | apply find_tail | apply find_skip)) (by first | exact st_z0 | rfl) ((by rw [fam0]; repeat (first | exact keeps_nil | exact keeps_self | exact keeps_left | apply keeps_app | apply keeps_mv | apply keeps_skip))))
    refine c_loop (α := SZ) (fun z => 4 - z.i) (fun z a w => (SZ0 g z) ∧ Sl 40 ([(16, .int .i64 (z.i : Int))] ++ KS0) a ∧ Has _ w0 ([(k3, C (arrL 116 (stV g.ep (uptoF z.i (flK g.flr)) (upto z.i z.ev) (fun _ => .slice none 0 0) (wfN g.tb 20))) 52)] ++ (HS0 ++ (fam z.Ee z.i))) w) ⟨(fun _ => .slice none 0 0), fun _ => [], 0⟩ ⟨⟨Nat.zero_le _, fun c hc => absurd hc (Nat.not_lt_zero _)⟩, hl.addE (t := 16) (hk) rfl (by first | rfl), hh2⟩ ?_
    clear hk hh2 hl hh a w
    intro z a w hI
    obtain ⟨hZ, hl, hh⟩ := hI
    subst hKS0; subst hHS0
    simp only [List.cons_append, List.nil_append, List.append_nil, List.append_assoc] at hl hh
    have hzi := hZ.i
    refine c_seq ?_
    refine c_region ?_
    refine wl (wl_val hl rfl trivial (r_lss hl rfl rfl) ?_)
    clear hl a; intro a hl
    refine w_nil ?_
    have hl2 := hl.add (t := 0) (hl.add (t := 2) (hl.add (t := 3) (hl.add (t := 16) (hl.add (t := 17) (hl.nil) rfl) rfl) rfl) rfl) rfl; clear hl; have hl := hl2; clear hl2
    refine then_normal ?_
    refine c_seq ?_
    refine c_cond hl rfl ?_ ?_
    · intro hc0
      try simp only [decide_eq_true_eq, decide_eq_false_iff_not, Bool.not_eq_true', Bool.not_eq_false', Bool.not_eq_true, Bool.not_eq_false, Bool.and_eq_true, Bool.or_eq_true, Bool.and_eq_false_iff, Bool.or_eq_false_iff, Bool.not_not, ne_eq, Int.not_lt, Int.not_le, Decidable.not_not, beq_iff_eq, bne_iff_ne] at hc0
      refine wp_skip ?_
      refine then_normal ?_
      refine c_seq ?_
      refine wp_block ?_
      refine c_seq ?_
      refine c_region ?_
      refine wl (wl_val hl rfl trivial (r_move hl rfl) ?_)
      clear hl a; intro a hl
      refine wl (wl_val hl rfl trivial (r_assign hl rfl) ?_)
      clear hl a; intro a hl
      refine w_nil ?_
      have hl2 := hl.add (t := 0) (hl.add (t := 2) (hl.add (t := 3) (hl.add (t := 4) (hl.add (t := 16) (hl.nil) rfl) rfl) rfl) rfl) rfl; clear hl; have hl := hl2; clear hl2
      refine then_normal ?_
      refine c_region ?_
      refine wl (wl_val hl rfl trivial (r_move hl rfl) ?_)
      clear hl a; intro a hl
      refine wl (wl_val hl rfl trivial (r_move hl rfl) ?_)
      clear hl a; intro a hl
      refine wl (wl_val hl rfl trivial (r_move hl rfl) ?_)
      clear hl a; intro a hl
      refine wl (w_call hl hh rfl trivial rfl cal33 rfl (shard_spec hS bg B Q hq hG z.i (by omega)) (by repeat (first | exact keeps_nil | apply keeps_cons (by repeat (first | exact find_head | apply find_tail | apply find_skip)) (by first  | rfl) | exact keeps_self | exact keeps_left | apply keeps_app | apply keeps_mv | apply keeps_skip)) (mem_keep hh hpre) ?_)
      clear hl hh a w; intro vc Fc a w hR hl hh
      obtain ⟨ve, rfl, hRe⟩ := hR
      try simp only [List.cons_append, List.nil_append, List.append_assoc, List.append_nil] at hh
      generalize Fc = X at hh hRe
      refine wl (wl_val hl rfl trivial (r_field hl rfl fld52_1) ?_)
      clear hl a; intro a hl
      refine wl (wl_val hl rfl trivial (r_indexA hl rfl rfl arr47 (by omega) (by omega) (by first | (simp only [Int.reduceToNat]; rfl) | exact toNat_add1 _ | exact toNat_add2 _ _ | exact toNat_emod _ _ | exact Int.toNat_natCast _ | rfl)) ?_)
      clear hl a; intro a hl
      refine wl (w_storeA hl hh trivial agg46 rfl rfl (by repeat (first | exact find_head | apply find_tail | apply find_skip)) (by first | rfl | (simp; done) | exact arrL_length _ _) (by first | (simp; done) | (simp; omega) | (rw [arrL_length]; omega)) (by first | rfl | (simp; done) | exact arrL_all (fun j => ite_one hRe.one rfl)) (by first | exact st_shard (by omega) | exact st_box (by omega) | (simp only [setL, List.getElem?_cons_zero, List.getElem?_cons_succ, Value.cells, List.take_zero, List.take_succ_cons, List.take_nil, List.drop_zero, List.drop_succ_cons, List.drop_nil, List.length_cons, List.length_nil, List.cons_append, List.nil_append, List.append_nil, Nat.zero_add, Nat.add_zero, Nat.reduceAdd, Nat.reduceBEq, Nat.reduceEqDiff, Nat.ble, BEq.rfl, Bool.and_true, Bool.and_self, cond_true, beq_self_eq_true]; rfl)) ?_)
      clear hh w; intro w hh
      refine w_nil ?_
      have hl2 := hl.add (t := 0) (hl.add (t := 2) (hl.add (t := 3) (hl.add (t := 16) (hl.nil) rfl) rfl) rfl) rfl; clear hl; have hl := hl2; clear hl2
      refine blk_normal ?_
      refine then_normal ?_
      refine c_region ?_
      first | refine wl (wl_val hl rfl trivial (r_add hl rfl rfl (by simp only [Fits]; omega)) ?_) | refine wl (wl_val hl rfl trivial (r_addW hl rfl rfl) ?_)
      clear hl a; intro a hl
      refine wl (wl_val hl rfl trivial (r_move hl rfl) ?_)
      clear hl a; intro a hl
      refine w_nil ?_
      have hl2 := hl.add (t := 0) (hl.add (t := 2) (hl.add (t := 3) (hl.add (t := 16) (hl.nil) rfl) rfl) rfl) rfl; clear hl; have hl := hl2; clear hl2
      refine then_normal ?_
      refine ⟨⟨updV z.ev z.i ve, updE z.Ee z.i X, z.i + 1⟩, (by simp only; omega), (hZ.next (by omega) hRe), hl.addE (t := 16) (hl.addE (t := 0) (hl.addE (t := 2) (hl.addE (t := 3) (hl.nil) rfl (by first | rfl | (congr 1; omega))) rfl (by first | rfl | (congr 1; omega))) rfl (by first | rfl | (congr 1; omega))) rfl (by first | rfl | (congr 1; omega)), (by dsimp only; rw [fam_snoc]; exact hh.keep (by repeat (first | exact keeps_nil | apply keeps_cons (by repeat (first | exact find_head | apply find_tail | apply find_skip)) (by first  | rfl) | exact keeps_self | exact keeps_left | apply keeps_app | apply keeps_mv | apply keeps_skip)))⟩
    · intro hc0
      try simp only [decide_eq_true_eq, decide_eq_false_iff_not, Bool.not_eq_true', Bool.not_eq_false', Bool.not_eq_true, Bool.not_eq_false, Bool.and_eq_true, Bool.or_eq_true, Bool.and_eq_false_iff, Bool.or_eq_false_iff, Bool.not_not, ne_eq, Int.not_lt, Int.not_le, Decidable.not_not, beq_iff_eq, bne_iff_ne] at hc0
      have hz4 : z.i = 4 := by omega
      rw [hz4, st_z1] at hh
      refine wp_exit ?_
      refine then_exit ?_
      refine then_exit ?_
      refine blk_exit ?_
      refine then_normal ?_
      refine c_seq ?_
      refine c_seq ?_
      refine c_region ?_
      refine wl (wl_val hl rfl trivial (r_move hl rfl) ?_)
      clear hl a; intro a hl
      refine w_nil ?_
      have hl2 := hl.add (t := 0) (hl.add (t := 2) (hl.add (t := 3) (hl.add (t := 26) (hl.nil) rfl) rfl) rfl) rfl; clear hl; have hl := hl2; clear hl2
      refine then_normal ?_
      refine wp_block ?_
      obtain ⟨KS1, hKS1, hk⟩ := (hl.add (t := 0) (hl.add (t := 2) (hl.add (t := 3) (hl.nil) rfl) rfl) rfl).name
      obtain ⟨HS1, hHS1, hh2⟩ := hh.nameT (A := [(k3, C (arrL 116 (stV g.ep (flK g.flr) z.ev (upto 0 (fun _ => .slice none 0 0)) (wfN g.tb 20))) 52)]) (U := (fam (fun _ => []) 0)) (keeps_cons (b := k3) (o' := C (arrL 116 (stV g.ep (flK g.flr) z.ev (upto 0 (fun _ => .slice none 0 0)) (wfN g.tb 20))) 52) (by repeat (first | exact find_head | apply find_tail | apply find_skip)) (by first | rfl) ((by rw [fam0]; repeat (first | exact keeps_nil | exact keeps_self | exact keeps_left | apply keeps_app | apply keeps_mv | apply keeps_skip))))
      refine c_loop (α := SZ) (fun y => 16 - y.i) (fun y a w => (SZ1 g y) ∧ Sl 40 ([(26, .int .i64 (y.i : Int))] ++ KS1) a ∧ Has _ w0 ([(k3, C (arrL 116 (stV g.ep (flK g.flr) z.ev (upto y.i y.ev) (wfN g.tb 20))) 52)] ++ (HS1 ++ (fam y.Ee y.i))) w) ⟨(fun _ => .slice none 0 0), fun _ => [], 0⟩ ⟨⟨Nat.zero_le _, fun c hc => absurd hc (Nat.not_lt_zero _)⟩, hl.addE (t := 26) (hk) rfl (by first | rfl), hh2⟩ ?_
      clear hk hh2 hl hh a w
      intro y a w hI
      obtain ⟨hY, hl, hh⟩ := hI
      subst hKS1; subst hHS1
      simp only [List.cons_append, List.nil_append, List.append_nil, List.append_assoc] at hl hh
      have hyi := hY.i
      refine c_seq ?_
      refine c_region ?_
      refine wl (wl_val hl rfl trivial (r_lss hl rfl rfl) ?_)
      clear hl a; intro a hl
      refine w_nil ?_
      have hl2 := hl.add (t := 0) (hl.add (t := 2) (hl.add (t := 3) (hl.add (t := 26) (hl.add (t := 27) (hl.nil) rfl) rfl) rfl) rfl) rfl; clear hl; have hl := hl2; clear hl2
      refine then_normal ?_
      refine c_seq ?_
      refine c_cond hl rfl ?_ ?_
      · intro hc1
        try simp only [decide_eq_true_eq, decide_eq_false_iff_not, Bool.not_eq_true', Bool.not_eq_false', Bool.not_eq_true, Bool.not_eq_false, Bool.and_eq_true, Bool.or_eq_true, Bool.and_eq_false_iff, Bool.or_eq_false_iff, Bool.not_not, ne_eq, Int.not_lt, Int.not_le, Decidable.not_not, beq_iff_eq, bne_iff_ne] at hc1
        refine wp_skip ?_
        refine then_normal ?_
        refine c_seq ?_
        refine wp_block ?_
        refine c_seq ?_
        refine c_region ?_
        refine wl (wl_val hl rfl trivial (r_move hl rfl) ?_)
        clear hl a; intro a hl
        refine wl (wl_val hl rfl trivial (r_assign hl rfl) ?_)
        clear hl a; intro a hl
        refine w_nil ?_
        have hl2 := hl.add (t := 0) (hl.add (t := 2) (hl.add (t := 3) (hl.add (t := 5) (hl.add (t := 26) (hl.nil) rfl) rfl) rfl) rfl) rfl; clear hl; have hl := hl2; clear hl2
        refine then_normal ?_
        refine c_region ?_
        refine wl (wl_val hl rfl trivial (r_move hl rfl) ?_)
        clear hl a; intro a hl
        refine wl (wl_val hl rfl trivial (r_move hl rfl) ?_)
        clear hl a; intro a hl
        refine wl (wl_val hl rfl trivial (r_nilCheck hl rfl) ?_)
        clear hl a; intro a hl
        refine wl (wl_val hl rfl trivial (r_field hl rfl fld94_0) ?_)
        clear hl a; intro a hl
        first | refine wl (w_load hl hh rfl trivial one25 rfl (by repeat (first | exact find_head | apply find_tail | apply find_skip)) (by first | exact fg_p1 hS.gr.p1 | rfl) ?_) | refine wl (w_loadR hl hh rfl trivial one25 rfl hmG (by simp) (fg_p0 hS.gr.p0) ?_)
        clear hl a; intro a hl
        refine wl (wl_val hl rfl trivial (r_move hl rfl) ?_)
        clear hl a; intro a hl
        refine wl (w_call hl hh rfl trivial rfl cal34 rfl (pending_spec hS.mc M.bm hG.b32 y.i (by omega)) (by repeat (first | exact keeps_nil | apply keeps_cons (by repeat (first | exact find_head | apply find_tail | apply find_skip)) (by first  | rfl) | exact keeps_self | exact keeps_left | apply keeps_app | apply keeps_mv | apply keeps_skip)) (mem_keep hh hmM) ?_)
        clear hl hh a w; intro vc Fc a w hR hl hh
        try simp only [List.cons_append, List.nil_append, List.append_assoc, List.append_nil] at hh
        have hRb := hR
        clear hR
        generalize Fc = X at hh hRb
        generalize vc = vb at hl hRb
        refine wl (wl_val hl rfl trivial (r_field hl rfl fld52_2) ?_)
        clear hl a; intro a hl
        refine wl (wl_val hl rfl trivial (r_indexA hl rfl rfl arr49 (by omega) (by omega) (by first | (simp only [Int.reduceToNat]; rfl) | exact toNat_add1 _ | exact toNat_add2 _ _ | exact toNat_emod _ _ | exact Int.toNat_natCast _ | rfl)) ?_)
        clear hl a; intro a hl
        refine wl (w_store hl hh trivial one48 rfl rfl (by repeat (first | exact find_head | apply find_tail | apply find_skip)) (by first | (simp; done) | (simp; omega) | (rw [arrL_length]; omega)) (by first | rfl | assumption | (apply Row.one; assumption)) (by first | exact st_shard (by omega) | exact st_box (by omega) | (simp only [setL, List.getElem?_cons_zero, List.getElem?_cons_succ, Value.cells, List.take_zero, List.take_succ_cons, List.take_nil, List.drop_zero, List.drop_succ_cons, List.drop_nil, List.length_cons, List.length_nil, List.cons_append, List.nil_append, List.append_nil, Nat.zero_add, Nat.add_zero, Nat.reduceAdd, Nat.reduceBEq, Nat.reduceEqDiff, Nat.ble, BEq.rfl, Bool.and_true, Bool.and_self, cond_true, beq_self_eq_true]; rfl)) ?_)
        clear hh w; intro w hh
        refine w_nil ?_
        have hl2 := hl.add (t := 0) (hl.add (t := 2) (hl.add (t := 3) (hl.add (t := 26) (hl.nil) rfl) rfl) rfl) rfl; clear hl; have hl := hl2; clear hl2
        refine blk_normal ?_
        refine then_normal ?_
        refine c_region ?_
        first | refine wl (wl_val hl rfl trivial (r_add hl rfl rfl (by simp only [Fits]; omega)) ?_) | refine wl (wl_val hl rfl trivial (r_addW hl rfl rfl) ?_)
        clear hl a; intro a hl
        refine wl (wl_val hl rfl trivial (r_move hl rfl) ?_)
        clear hl a; intro a hl
        refine w_nil ?_
        have hl2 := hl.add (t := 0) (hl.add (t := 2) (hl.add (t := 3) (hl.add (t := 26) (hl.nil) rfl) rfl) rfl) rfl; clear hl; have hl := hl2; clear hl2
        refine then_normal ?_
        refine ⟨⟨updV y.ev y.i vb, updE y.Ee y.i X, y.i + 1⟩, (by simp only; omega), (hY.next (by omega) hRb), hl.addE (t := 26) (hl.addE (t := 0) (hl.addE (t := 2) (hl.addE (t := 3) (hl.nil) rfl (by first | rfl | (congr 1; omega))) rfl (by first | rfl | (congr 1; omega))) rfl (by first | rfl | (congr 1; omega))) rfl (by first | rfl | (congr 1; omega)), (by dsimp only; rw [fam_snoc]; exact hh.keep (by repeat (first | exact keeps_nil | apply keeps_cons (by repeat (first | exact find_head | apply find_tail | apply find_skip)) (by first  | rfl) | exact keeps_self | exact keeps_left | apply keeps_app | apply keeps_mv | apply keeps_skip)))⟩
      · intro hc1
        try simp only [decide_eq_true_eq, decide_eq_false_iff_not, Bool.not_eq_true', Bool.not_eq_false', Bool.not_eq_true, Bool.not_eq_false, Bool.and_eq_true, Bool.or_eq_true, Bool.and_eq_false_iff, Bool.or_eq_false_iff, Bool.not_not, ne_eq, Int.not_lt, Int.not_le, Decidable.not_not, beq_iff_eq, bne_iff_ne] at hc1
        have hy16 : y.i = 16 := by omega
        rw [hy16, st_z2] at hh
        have hZr := hZ.r; have hYr := hY.r
        rw [hz4] at hZr
        rw [hy16] at hYr
        refine wp_exit ?_
        refine then_exit ?_
        refine then_exit ?_
        refine blk_exit ?_
        refine then_normal ?_
        refine c_seq ?_
        refine c_region ?_
        refine wl (w_loadA hl hh rfl trivial agg52 rfl (by repeat (first | exact find_head | apply find_tail | apply find_skip)) (by exact arr_whole116 _) (by exact arrL_length _ _) ?_)
        clear hl a; intro a hl
        refine wl (w_storeA hl hh trivial agg52 rfl rfl (by repeat (first | exact find_head | apply find_tail | apply find_skip)) (by exact arrL_length _ _) (by first | exact Nat.le_of_eq (arrL_length _ _).symm | (rw [arrL_length]; exact Nat.le_refl _)) (by first | exact stV_one (fun _ => rfl) (fun _ => rfl) | exact stV_one2 (fun c hc => (hZr c hc).one) (fun b hb => (hYr b hb).one)) (by exact setL_whole (by rw [arrL_length, arrL_length])) ?_)
        clear hh w; intro w hh
        refine w_nil ?_
        have hl2 := hl.add (t := 2) (hl.nil) rfl; clear hl; have hl := hl2; clear hl2
        refine then_normal ?_
        refine wp_ret ?_
        refine f_retC (F' := (fam z.Ee 4 ++ fam y.Ee 16)) hl hh rfl rfl agg52 (by repeat (first | exact find_head | apply find_tail | apply find_skip)) (by first | rfl | exact arrL_length _ _ | (simp; done)) (by repeat (first | exact keeps_nil | apply keeps_cons (by repeat (first | exact find_head | apply find_tail | apply find_skip)) (by first  | rfl) | exact keeps_self | exact keeps_left | apply keeps_app | apply keeps_mv | apply keeps_skip)) ?_
        exact ⟨z.ev, y.ev, z.Ee, y.Ee, rfl, ⟨hZr, hYr⟩, rfl⟩
end Go.Proofs.Qxb6500911aGreatDoor

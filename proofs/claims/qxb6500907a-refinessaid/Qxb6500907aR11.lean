import Derived.Test.Qxb6500907aR6
import Derived.Test.Qxb6500907aR7
import Derived.Test.Qxb6500907aR9
namespace Go.Proofs.Qxb6500907a
open Go.Eng
set_option linter.unusedVariables false
set_option linter.unusedSimpArgs false

/-! ## the model's lines -/
theorem keeps_skip {B F E G : List (Nat × Obj)} (h : Keeps F E G) : Keeps (B ++ F) E (B ++ G) :=
  ⟨(List.Perm.append_left B h.perm).trans (by rw [← List.append_assoc, ← List.append_assoc]; exact List.perm_append_comm.append_right G)⟩
theorem keeps_app {F A E G1 G : List (Nat × Obj)} (h1 : Keeps F A G1) (h2 : Keeps G1 E G) : Keeps F (A ++ E) G :=
  ⟨h1.perm.trans (by rw [List.append_assoc]; exact List.Perm.append_left A h2.perm)⟩
theorem find_skip {B F G : List (Nat × Obj)} {b : Nat} {o : Obj} (h : Find F b o G) : Find (B ++ F) b o (B ++ G) := ⟨(List.Perm.append_left B h.perm).trans List.perm_middle⟩
theorem memK {D : List Nat} {w0 w : World} {F E G : List (Nat × Obj)} (hh : Has D w0 F w) (h : Keeps F E G) : Mem E w := fun b o m => hh.mem b o (h.perm.mem_iff.2 (List.mem_append_left _ m))
theorem wordsN (db off n cap : Nat) (c : List Value) (T : TypeId) (fr : Nat × Nat) (ls : List Int) (hn : n = ls.length) (hN : ls.length ≤ 65536) (hcap : ls.length ≤ cap) (hbs0 : Vw8 c off ls) : Sp Try.prog 42 #[.slice (some ⟨db, off, none⟩) n cap] [(db, .cells ⟨c⟩ T fr)] (fun v F' => (wdL ls = none ∧ v = .tuple #[.slice none 0 0, .bool false] ∧ F' = [(db, .cells ⟨c⟩ T fr)]) ∨ ∃ ws rp rc E, wdL ls = some ws ∧ v = .tuple #[.slice rp ws.length rc, .bool true] ∧ Row (.slice rp ws.length rc) ws.length (ws.map wv) 1 9 E ∧ (ws = [] → E = []) ∧ F' = (db, .cells ⟨c⟩ T fr) :: E) := by
  subst hn
  intro w hp hm hnd
  refine (wordsM db off cap c T fr ls hN hcap hbs0 w hp hm hnd).mono fun e w' hq => ?_
  cases e with
  | returned v =>
    obtain ⟨F', hR, hh⟩ := hq
    refine ⟨F', ?_, hh⟩
    unfold WdR at hR
    cases hw : wdL ls with
    | none => rw [hw] at hR; exact .inl ⟨rfl, hR⟩
    | some ws =>
      rw [hw] at hR
      obtain ⟨rv, E, h1, h2, h3, h4⟩ := hR
      obtain ⟨rp, rc, rfl⟩ := row_val h2
      exact .inr ⟨ws, rp, rc, E, rfl, h1, h2, h3, h4⟩
  | _ => exact hq
theorem map_some {α β : Type} {o : Option α} {f : α → β} {b : β} (h : o.map f = some b) : ∃ x, o = some x ∧ f x = b := by
  cases o with
  | none => cases h
  | some x => injection h with h; exact ⟨x, rfl, h⟩
theorem wd_len : ∀ (n : Nat) (l : List Int), l.length ≤ n → ∀ ws, wdL l = some ws → ∀ t ∈ ws, t.length ≤ l.length
  | 0, l, h, ws, hw, t, ht => by
    rw [show l = [] from List.eq_nil_of_length_eq_zero (by omega), wdL_nil] at hw
    injection hw with hw; subst hw; cases ht
  | n + 1, [], h, ws, hw, t, ht => by rw [wdL_nil] at hw; injection hw with hw; subst hw; cases ht
  | n + 1, c :: r, h, ws, hw, t, ht => by
    rw [List.length_cons] at h
    rw [wdL_cons] at hw
    have hs : ∀ p : Int → Bool, (r.takeWhile p).length ≤ r.length := fun p => (List.takeWhile_sublist p).length_le
    have hd : ∀ p : Int → Bool, (r.dropWhile p).length ≤ r.length := fun p => dropW_le p r
    by_cases c1 : blkB c = true
    · rw [if_pos c1] at hw
      have := wd_len n r (by omega) ws hw t ht
      rw [List.length_cons]; omega
    rw [if_neg c1] at hw
    by_cases c2 : c = 47
    · rw [if_pos c2] at hw
      obtain ⟨x, hx, rfl⟩ := map_some hw
      rcases List.mem_cons.1 ht with rfl | ht
      · simp
      · have := wd_len n r (by omega) x hx t ht
        rw [List.length_cons]; omega
    rw [if_neg c2] at hw
    by_cases c3 : letB c = true
    · rw [if_pos c3] at hw
      obtain ⟨x, hx, rfl⟩ := map_some hw
      rcases List.mem_cons.1 ht with rfl | ht
      · have := hs alnB; simp only [List.length_cons]; omega
      · have := wd_len n _ (by have := hd alnB; omega) x hx t ht
        have := hd alnB; rw [List.length_cons]; omega
    rw [if_neg c3] at hw
    by_cases c4 : digB c = true
    · rw [if_pos c4] at hw
      obtain ⟨x, hx, rfl⟩ := map_some hw
      rcases List.mem_cons.1 ht with rfl | ht
      · have := hs digB; simp only [List.length_cons]; omega
      · have := wd_len n _ (by have := hd digB; omega) x hx t ht
        have := hd digB; rw [List.length_cons]; omega
    · rw [if_neg c4] at hw; cases hw
def nhB (c : Int) : Bool := !decide (c = 35)
theorem nh_t {c : Int} (h : c ≠ 35) : nhB c = true := by unfold nhB; simp [h]
theorem nh_f {c : Int} (h : c = 35) : nhB c = false := by unfold nhB; simp [h]
def addLn (ws : List (List Int)) (t : List (List (List Int))) : List (List (List Int)) := if ws.length = 0 then t else ws :: t
def lnsL (l : List Int) : Option (List (List (List Int))) := match l with
  | [] => some []
  | c :: r => match wdL (((c :: r).takeWhile nnlB).takeWhile nhB) with
    | none => none
    | some ws => (lnsL (((c :: r).dropWhile nnlB).drop 1)).map (addLn ws)
termination_by l.length
decreasing_by
  rw [List.length_drop]
  have := dropW_le nnlB (c :: r)
  simp only [List.length_cons] at this ⊢
  omega
theorem lnsL_nil : lnsL [] = some [] := by rw [lnsL]
theorem lnsL_cons (c : Int) (r : List Int) : lnsL (c :: r) = match wdL (((c :: r).takeWhile nnlB).takeWhile nhB) with
    | none => none
    | some ws => (lnsL (((c :: r).dropWhile nnlB).drop 1)).map (addLn ws) := by rw [lnsL]
theorem ls_step {l : List Int} {nn q : Nat} (h : 0 < l.length) (hnn : nn ≤ l.length) (hall : ∀ k, 0 ≤ k → k < nn → nnlB (gD l k) = true) (hstop : nn < l.length → nnlB (gD l nn) = false) (hq : q ≤ nn) (hqall : ∀ k, 0 ≤ k → k < q → nhB (gD l k) = true) (hqstop : q < nn → nhB (gD l q) = false) : lnsL l = match wdL (l.take q) with
    | none => none
    | some ws => (lnsL (l.drop (nn + 1))).map (addLn ws) := by
  obtain ⟨e1, e2⟩ := run_stop (p := nnlB) (l := l) (i := 0) (j := nn) (Nat.zero_le _) hall hnn hstop
  rw [List.drop_zero, Nat.sub_zero] at e1
  rw [List.drop_zero] at e2
  obtain ⟨e3, _⟩ := run_stop (p := nhB) (l := l.take nn) (i := 0) (j := q) (Nat.zero_le _) (fun k a b => by rw [gD_take (by omega)]; exact hqall k a b) (by rw [List.length_take]; omega) (fun hlt => by rw [List.length_take] at hlt; rw [gD_take (by omega)]; exact hqstop (by omega))
  rw [List.drop_zero, Nat.sub_zero, List.take_take, Nat.min_eq_left hq] at e3
  have := lnsL_cons (gD l 0) (l.drop 1)
  rw [← dr0 h, e1, e2, e3, List.drop_drop] at this
  exact this
structure Ln where
  ws : List (List Int)
  rv : Value
  E : List (Nat × Obj)
def fE (l : List Ln) : List (Nat × Obj) := l.flatMap Ln.E
theorem fE_cons (x : Ln) (l : List Ln) : fE (x :: l) = x.E ++ fE l := rfl
theorem fE_snoc (l : List Ln) (x : Ln) : fE (l ++ [x]) = fE l ++ x.E := by unfold fE; simp
structure Ln.ok (x : Ln) : Prop where
  row : Row x.rv x.ws.length (x.ws.map wv) 1 9 x.E
  pos : 0 < x.ws.length
  len : ∀ t ∈ x.ws, t.length ≤ 65536
structure LsS where
  o : Nat
  cap : Nat
  l : List Int
  lns : List Ln
  lv : Value
  EL : List (Nat × Obj)
structure LsI (c : List Value) (src : List Int) (s : LsS) : Prop where
  vw : Vw8 c s.o s.l
  cap : s.l.length ≤ s.cap
  le : s.lns.length + s.l.length ≤ src.length
  eq : lnsL src = (lnsL s.l).map (s.lns.map Ln.ws ++ ·)
  row : Row s.lv s.lns.length (s.lns.map Ln.rv) 1 101 s.EL
  ok : ∀ x ∈ s.lns, x.ok
theorem LsI.start {c : List Value} {o cap : Nat} {src : List Int} (h : Vw8 c o src) (hc : src.length ≤ cap) : LsI c src ⟨o, cap, src, [], .slice none 0 0, []⟩ := ⟨h, hc, by simp, by cases lnsL src <;> simp, Row.nil _ _, fun x hx => by cases hx⟩
theorem LsI.skip {c : List Value} {src : List Int} {s : LsS} (h : LsI c src s) {nn o2 cap2 : Nat} {ws : List (List Int)} (h0 : 0 < s.l.length) (hv : Vw8 c o2 (s.l.drop (nn + 1)) ∧ (s.l.drop (nn + 1)).length ≤ cap2) (hst : lnsL s.l = (lnsL (s.l.drop (nn + 1))).map (addLn ws)) (hw : ws.length = 0) : LsI c src ⟨o2, cap2, s.l.drop (nn + 1), s.lns, s.lv, s.EL⟩ :=
  ⟨hv.1, hv.2, by have := h.le; simp only [List.length_drop]; omega, by
    rw [h.eq, hst, Option.map_map]
    congr 1
    funext x
    simp [addLn, hw], h.row, h.ok⟩
theorem LsI.more {c : List Value} {src : List Int} {s : LsS} (h : LsI c src s) {nn o2 cap2 : Nat} {ws : List (List Int)} {rp : Option Addr} {rc : Nat} {E EL2 : List (Nat × Obj)} {lv2 : Value} (h0 : 0 < s.l.length) (hv : Vw8 c o2 (s.l.drop (nn + 1)) ∧ (s.l.drop (nn + 1)).length ≤ cap2) (hst : lnsL s.l = (lnsL (s.l.drop (nn + 1))).map (addLn ws)) (hw : 0 < ws.length) (hR : Row (.slice rp ws.length rc) ws.length (ws.map wv) 1 9 E) (hl : ∀ t ∈ ws, t.length ≤ 65536) (hr : Row lv2 (s.lns.length + 1) (s.lns.map Ln.rv ++ [.slice rp ws.length rc]) 1 101 EL2) : LsI c src ⟨o2, cap2, s.l.drop (nn + 1), s.lns ++ [⟨ws, .slice rp ws.length rc, E⟩], lv2, EL2⟩ :=
  ⟨hv.1, hv.2, by have := h.le; simp only [List.length_drop, List.length_append, List.length_cons, List.length_nil]; omega, by
    rw [h.eq, hst, Option.map_map]
    congr 1
    funext x
    simp [addLn, show ws ≠ [] from fun e => by rw [e] at hw; simp at hw], by simp only [List.length_append, List.map_append, List.length_cons, List.length_nil]; exact hr, fun x hx => by
    rcases List.mem_append.1 hx with hx | hx
    · exact h.ok x hx
    · rw [List.mem_singleton.1 hx]; exact ⟨hR, hw, hl⟩⟩
theorem LsI.done {c : List Value} {src : List Int} {s : LsS} (h : LsI c src s) (h0 : s.l.length = 0) : lnsL src = some (s.lns.map Ln.ws) := by
  have e := h.eq
  rw [List.eq_nil_of_length_eq_zero h0, lnsL_nil] at e
  rw [e]; simp
theorem LsI.bad {c : List Value} {src : List Int} {s : LsS} (h : LsI c src s) (hb : lnsL s.l = none) : lnsL src = none := by rw [h.eq, hb]; rfl
/-! ## the model's reader -/
def chM : List (List (List Int)) → Option (List Ch)
  | [] => some []
  | ws :: t => match lnM (ws.map bA) with
    | none => none
    | some c => if wfF c then (chM t).map (c :: ·) else none
def topM (first last : List (List Int)) (mid : List (List (List Int))) : Option (Int × List Ch) :=
  if first.length = 2 ∧ sEq (bA (first.getD 0 [])) sBatch = true ∧ last.length = 1 ∧ sEq (bA (last.getD 0 [])) sEnd = true then
    (match nmW (bA (first.getD 1 [])) 4294967295 with
    | none => none
    | some id => (chM mid).map fun cs => (id, cs))
  else none
def lisM (lns : List (List (List Int))) : Option (Int × List Ch) := if lns.length < 2 ∨ 128 < lns.length - 2 then none else topM (lns.headD []) (lns.getLastD []) (lns.drop 1).dropLast
def parM (src : List Int) : Option (Int × List Ch) := match lnsL src with
  | none => none
  | some lns => lisM lns
def MPar (src : List Int) (B : List (Nat × Obj)) (v : Value) (F' : List (Nat × Obj)) : Prop :=
  (parM src = none ∧ v = .tuple #[.agg ⟨[.int .u32 0, .slice none 0 0]⟩, .bool false] ∧ F' = B) ∨
  ∃ id cs rv E, parM src = some (id, cs) ∧ v = .tuple #[.agg ⟨[.int .u32 id, rv]⟩, .bool true] ∧ Row rv cs.length (chs cs) 12 57 E ∧ (∀ c, c ∈ cs → c.ok) ∧ cs.length ≤ 128 ∧ F' = B ++ E
theorem split3 {α : Type} {l : List α} (h : 2 ≤ l.length) : ∃ x0 mid xn, l = x0 :: (mid ++ [xn]) := by
  match l, h with
  | x0 :: y :: r, _ => exact ⟨x0, (y :: r).dropLast, (y :: r).getLast (by simp), by rw [List.dropLast_concat_getLast]⟩
theorem lis_bad {lns : List (List (List Int))} {src : List Int} (h : lnsL src = some lns) (hb : lns.length < 2 ∨ 128 < lns.length - 2) : parM src = none := by
  unfold parM; rw [h]; show lisM lns = none; unfold lisM; rw [if_pos hb]
theorem lis_mid {src : List Int} {x0 xn : List (List Int)} {mid : List (List (List Int))} (h : lnsL src = some (x0 :: (mid ++ [xn]))) (hb : mid.length ≤ 128) : parM src = topM x0 xn mid := by
  unfold parM; rw [h]; show lisM _ = _
  unfold lisM
  rw [if_neg (by simp only [List.length_cons, List.length_append, List.length_nil]; omega)]
  have e : (x0 :: (mid ++ [xn])).getLast? = some xn := by rw [← List.cons_append, List.getLast?_concat]
  simp only [List.headD_cons, List.getLastD_eq_getLast?, e, Option.getD_some, List.drop_succ_cons, List.drop_zero, List.dropLast_concat]
def lnC (v0 : Value) (vs : List Value) (vn : Value) (lj : List Value) : List Value := v0 :: (vs ++ [vn]) ++ lj
theorem cell_at {l : List Value} {i j : Nat} {v : Value} (h : i = j) (hc : l[j]? = some v) : l[i]? = some v := by rw [h]; exact hc
theorem cell_last {vs lj : List Value} {v0 v : Value} : (lnC v0 vs v lj)[vs.length + 1]? = some v := by
  unfold lnC; simp
theorem cell_mid {vs lj : List Value} {v0 v vn : Value} {i : Nat} (h : vs[i]? = some v) : (lnC v0 vs vn lj)[1 + i]? = some v := by
  unfold lnC
  have hi : i < vs.length := by
    rcases Nat.lt_or_ge i vs.length with q | q
    · exact q
    · rw [List.getElem?_eq_none q] at h; cases h
  rw [Nat.add_comm 1 i, List.cons_append, List.getElem?_cons_succ, List.getElem?_append_left (by simp; omega), List.getElem?_append_left hi]
  exact h
theorem wv_at {ws : List (List Int)} {j : List Value} {i : Nat} (h : i < ws.length) : (ws.map wv ++ j)[i]? = some (.string (bA (ws.getD i []))) := by
  rw [List.getElem?_append_left (by rw [List.length_map]; exact h), List.getElem?_map, List.getElem?_eq_getElem h, List.getD_eq_getElem?_getD, List.getElem?_eq_getElem h]
  rfl
structure CmS where
  i : Nat
  cs : List Ch
  rv : Value
  E : List (Nat × Obj)
structure CmI (mid : List (List (List Int))) (i : Nat) (cs : List Ch) : Prop where
  le : i ≤ mid.length
  len : cs.length = i
  eq : chM mid = (chM (mid.drop i)).map (cs ++ ·)
theorem CmI.start (mid : List (List (List Int))) : CmI mid 0 [] := ⟨Nat.zero_le _, rfl, by rw [List.drop_zero]; cases chM mid <;> simp⟩
theorem CmI.next {mid : List (List (List Int))} {i : Nat} {cs : List Ch} (h : CmI mid i cs) {ws : List (List Int)} {c : Ch} (hw : mid[i]? = some ws) (hl : lnM (ws.map bA) = some c) (hf : wfF c = true) : CmI mid (i + 1) (cs ++ [c]) := by
  have hi : i < mid.length := by
    rcases Nat.lt_or_ge i mid.length with q | q
    · exact q
    · rw [List.getElem?_eq_none q] at hw; cases hw
  have e : mid[i] = ws := by rw [List.getElem?_eq_getElem hi] at hw; injection hw
  refine ⟨hi, by rw [List.length_append, h.len]; rfl, ?_⟩
  rw [h.eq, List.drop_eq_getElem_cons hi, e]
  conv => lhs; unfold chM
  rw [hl]
  simp only
  rw [if_pos hf, Option.map_map]
  congr 1
  funext x
  simp
theorem CmI.bad {mid : List (List (List Int))} {i : Nat} {cs : List Ch} (h : CmI mid i cs) {ws : List (List Int)} (hw : mid[i]? = some ws) (hb : lnM (ws.map bA) = none ∨ ∃ c, lnM (ws.map bA) = some c ∧ wfF c = false) : chM mid = none := by
  have hi : i < mid.length := by
    rcases Nat.lt_or_ge i mid.length with q | q
    · exact q
    · rw [List.getElem?_eq_none q] at hw; cases hw
  have e : mid[i] = ws := by rw [List.getElem?_eq_getElem hi] at hw; injection hw
  rw [h.eq, List.drop_eq_getElem_cons hi, e]
  have : chM (ws :: mid.drop (i + 1)) = none := by
    unfold chM
    rcases hb with hb | ⟨c, hb, hf⟩
    · rw [hb]
    · rw [hb]; simp only; rw [if_neg (by rw [hf]; simp)]
  rw [this]; rfl
theorem CmI.done {mid : List (List (List Int))} {i : Nat} {cs : List Ch} (h : CmI mid i cs) (hi : mid.length ≤ i) : chM mid = some cs := by
  rw [h.eq, List.drop_of_length_le hi]
  simp [chM]
theorem slc_len {p : Option Addr} {n m c : Nat} (h : n = m) : Value.slice p n c = .slice p m c := by rw [h]
theorem fE_mem {l : List Ln} {i : Nat} {x : Ln} (h : l[i]? = some x) {b : Nat} {o : Obj} (hm : (b, o) ∈ x.E) : (b, o) ∈ fE l := by
  unfold fE
  exact List.mem_flatMap.2 ⟨x, List.mem_of_getElem? h, hm⟩
theorem top_no {x0 xn : List (List Int)} {mid : List (List (List Int))} (h : ¬ (x0.length = 2 ∧ sEq (bA (x0.getD 0 [])) sBatch = true ∧ xn.length = 1 ∧ sEq (bA (xn.getD 0 [])) sEnd = true)) : topM x0 xn mid = none := by unfold topM; rw [if_neg h]
theorem top_yes {x0 xn : List (List Int)} {mid : List (List (List Int))} (h : x0.length = 2 ∧ sEq (bA (x0.getD 0 [])) sBatch = true ∧ xn.length = 1 ∧ sEq (bA (xn.getD 0 [])) sEnd = true) : topM x0 xn mid = match nmW (bA (x0.getD 1 [])) 4294967295 with
    | none => none
    | some id => (chM mid).map fun cs => (id, cs) := by unfold topM; rw [if_pos h]
theorem getD_mem {l : List (List Int)} {i : Nat} (h : i < l.length) : l.getD i [] ∈ l := by
  rw [List.getD_eq_getElem?_getD, List.getElem?_eq_getElem h]
  exact List.getElem_mem h
theorem lineW (p : Option Addr) (cap : Nat) (ws : List (List Int)) (E : List (Nat × Obj)) (hR : Row (.slice p ws.length cap) ws.length (ws.map wv) 1 9 E) (hs : ∀ t ∈ ws, t.length ≤ 65536) : SpK Try.prog 44 #[.slice p ws.length cap] (Mem E) [] (fun v F' => LnR (lnM (ws.map bA)) v ∧ F' = []) := by
  have h := lineM p cap (ws.map bA) E
  rw [List.length_map, List.map_map] at h
  exact h hR fun u hu => by
    obtain ⟨t, ht, rfl⟩ := List.mem_map.1 hu
    rw [bA_size]
    have := hs t ht
    omega
theorem lnok {o : Option Ch} {ch : Ch} (h : ∀ c, o = some c → ch = c) (hs : o.isSome = true) : o = some ch := by
  cases o with
  | none => cases hs
  | some c => rw [h c rfl]
theorem lnbad {o : Option Ch} {ch : Ch} (h : ∀ c, o = some c → ch = c) (hb : o.isSome = false ∨ (o.isSome = true ∧ wfF ch = false)) : o = none ∨ ∃ c, o = some c ∧ wfF c = false := by
  rcases hb with hb | ⟨hb, hf⟩
  · left
    cases o with
    | none => rfl
    | some c => cases hb
  · exact .inr ⟨ch, lnok h hb, hf⟩

end Go.Proofs.Qxb6500907a

import Derived.Test.Qxb6500907aN1
namespace Go.Proofs.Qxb6500907a
open Go.Eng
set_option linter.unusedVariables false
set_option linter.unusedSimpArgs false

def DevI (rv av : Nat → Value) (P : Pl) (ow : Nat → Bool) (d eb : Nat) (Zd fd : List (Nat × Obj)) : Prop :=
  (ow d = true ∧ ∃ Er Ea, RowR (rv d) (P.rs d) Er ∧ RowA (av d) (P.al d) Ea ∧ fd.Perm (Er ++ Ea)) ∨
  (ow d = false ∧ fd = [] ∧ ∃ Er Ea, RowR (rv d) (P.rs d) Er ∧ RowA (av d) (P.al d) Ea ∧ Zd = Er ++ Ea ∧ ∀ x, x ∈ Er ++ Ea → x.1 ≠ eb)
theorem dev_spec (eb d : Nat) (rv av : Nat → Value) (P : Pl) (ow : Nat → Bool) (Zd fd : List (Nat × Obj)) (hd : d < 16) (hI : DevI rv av P ow d eb Zd fd) (hl1 : (P.rs d).length ≤ 1000000) (hl2 : (P.al d).length ≤ 1000000) :
    SpK Try.prog 69 #[.pointer (some ⟨eb, 0, none⟩), .int .u8 (d : Int)] (Mem Zd) ((eb, C (arrL 80 (edF rv av P ow)) 133) :: fd)
      (fun u F' => ∃ rv' av' Er Ea, RowR rv' (P.rs d) Er ∧ RowA av' (P.al d) Ea ∧ u = .pointer (some ⟨eb, d * 3, none⟩) ∧ F' = (eb, C (arrL 80 (edF (upd rv d rv') (upd av d av') P (upd ow d true))) 133) :: (Er ++ Ea)) := by
  rcases hI with ⟨ho, Er, Ea, hr, ha, hfd⟩ | ⟨ho, rfl, Er, Ea, hr, ha, rfl, hne⟩
  · refine spK_post (spK_frame (G := fd) (dev_own eb d rv av P ow hd ho) (List.Perm.refl _)) (fun _ _ => trivial) ?_
    rintro v F' ⟨F2, ⟨rfl, rfl⟩, rfl⟩
    have ho' : upd ow d true = ow := by rw [← ho]; exact upd_self ow d
    exact ⟨_, [], ⟨rv d, av d, Er, Ea, hr, ha, rfl, by rw [upd_self, upd_self, ho']⟩, by rw [List.append_nil]; exact List.Perm.cons _ hfd⟩
  · exact dev_new eb d rv av P ow hd ho Er Ea hr ha hl1 hl2 hne
def u0 (c : Ch) : Ch := ⟨0, c.dv, 0, 0, false, 0, 0, 0, false, 0, 0, 0⟩
def insR (P : Pl) (d : Nat) (r : Rt) : Pl := { P with rs := upd P.rs d ((P.rs d).take (fp (P.rs d) r.a r.l) ++ r :: (P.rs d).drop (fp (P.rs d) r.a r.l)) }
def delR (P : Pl) (d i : Nat) : Pl := { P with rs := upd P.rs d ((P.rs d).take i ++ (P.rs d).drop (i + 1)) }
def insA (P : Pl) (d i : Nat) (r : Rl) : Pl := { P with al := upd P.al d ((P.al d).take i ++ r :: (P.al d).drop i) }
def delA (P : Pl) (d i : Nat) : Pl := { P with al := upd P.al d ((P.al d).take i ++ (P.al d).drop (i + 1)) }
def lnk (P : Pl) (d : Nat) (m : Int) : Pl := { P with link := upd P.link d m }
def ifcP (P : Pl) (d : Nat) (m : Int) : Pl := { P with ifc := upd P.ifc d m }
/-- one change of a network: the network, the change that undoes it, the code -/
def doP (P : Pl) (c : Ch) : Pl × Ch × Int :=
  if c.kd = 0 then
    if fnd (P.rs c.dv.toNat) c.ra c.rl = true then (P, u0 c, 13)
    else if 64 ≤ (P.rs c.dv.toNat).length + (P.al c.dv.toNat).length then (P, u0 c, 15)
    else (insR P c.dv.toNat ⟨c.ra, c.rl, c.via⟩, ⟨1, c.dv, 0, 0, false, c.ra, c.rl, 0, false, 0, 0, 0⟩, 0)
  else if c.kd = 1 then
    if fnd (P.rs c.dv.toNat) c.ra c.rl = true then
      match (P.rs c.dv.toNat)[fp (P.rs c.dv.toNat) c.ra c.rl]? with
      | some r => (delR P c.dv.toNat (fp (P.rs c.dv.toNat) c.ra c.rl), ⟨0, c.dv, 0, 0, false, r.a, r.l, r.v, false, 0, 0, 0⟩, 0)
      | none => (P, u0 c, 14)
    else (P, u0 c, 14)
  else if c.kd = 2 then
    if (P.al c.dv.toNat).length < c.ix.toNat then (P, u0 c, 10)
    else if 64 ≤ (P.rs c.dv.toNat).length + (P.al c.dv.toNat).length then (P, u0 c, 15)
    else (insA P c.dv.toNat c.ix.toNat ⟨c.pm, c.da, c.dl, c.cl⟩, ⟨3, c.dv, 0, c.ix, false, 0, 0, 0, false, 0, 0, 0⟩, 0)
  else if c.kd = 3 then
    match (P.al c.dv.toNat)[c.ix.toNat]? with
    | some r => (delA P c.dv.toNat c.ix.toNat, ⟨2, c.dv, 0, c.ix, false, 0, 0, 0, r.pm, r.a, r.l, r.c⟩, 0)
    | none => (P, u0 c, 10)
  else if c.kd = 4 then
    (lnk (lnk P c.dv.toNat (setF (P.link c.dv.toNat) c.pr c.up)) c.pr.toNat (setF ((lnk P c.dv.toNat (setF (P.link c.dv.toNat) c.pr c.up)).link c.pr.toNat) c.dv c.up), ⟨4, c.dv, c.pr, 0, bitF (P.link c.dv.toNat) c.pr, 0, 0, 0, false, 0, 0, 0⟩, 0)
  else if c.kd = 5 then
    (ifcP P c.dv.toNat (setF (P.ifc c.dv.toNat) c.pr c.up), ⟨5, c.dv, c.pr, 0, bitF (P.ifc c.dv.toNat) c.pr, 0, 0, 0, false, 0, 0, 0⟩, 0)
  else (P, u0 c, 0)
def DoR (eb : Nat) (rv av : Nat → Value) (ow : Nat → Bool) (P : Pl) (c : Ch) (d : Nat) (u : Value) (F' : List (Nat × Obj)) : Prop :=
  ∃ rv' av' Er Ea, RowR rv' ((doP P c).1.rs d) Er ∧ RowA av' ((doP P c).1.al d) Ea ∧ u = .tuple #[.agg ⟨(doP P c).2.1.vals⟩, .int .u8 (doP P c).2.2] ∧ ∃ X, X.Perm (Er ++ Ea) ∧ F' = (eb, C (arrL 80 (edF (upd rv d rv') (upd av d av') (doP P c).1 (upd ow d true))) 133) :: X
theorem DoR.mk {eb : Nat} {rv av : Nat → Value} {ow : Nat → Bool} {P P' : Pl} {c u : Ch} {code : Int} {d : Nat} {rv' av' : Value} {Er Ea X : List (Nat × Obj)} (h : doP P c = (P', u, code)) (hr : RowR rv' (P'.rs d) Er) (ha : RowA av' (P'.al d) Ea) (hX : X.Perm (Er ++ Ea)) :
    DoR eb rv av ow P c d (.tuple #[.agg ⟨u.vals⟩, .int .u8 code]) ((eb, C (arrL 80 (edF (upd rv d rv') (upd av d av') P' (upd ow d true))) 133) :: X) := by
  unfold DoR
  rw [h]
  exact ⟨rv', av', Er, Ea, hr, ha, rfl, X, hX, rfl⟩
theorem upd_upd {α : Type} (f : Nat → α) (d : Nat) (v v' : α) : upd (upd f d v) d v' = upd f d v' := by funext j; unfold upd; split <;> rfl
theorem ed_rv2 {rv av : Nat → Value} {P : Pl} {ow : Nat → Bool} {d : Nat} {v : Value} (h : d < 16) : (arrL 80 (edF (upd rv d v) av P ow))[d * 3 + 0]? = some v := by rw [ed_rv h, upd_same]
theorem ed_av2 {rv av : Nat → Value} {P : Pl} {ow : Nat → Bool} {d : Nat} {v : Value} (h : d < 16) : (arrL 80 (edF rv (upd av d v) P ow))[d * 3 + 1]? = some v := by rw [ed_av h, upd_same]
theorem ed_srv2 {rv av : Nat → Value} {P : Pl} {ow : Nat → Bool} {d : Nat} {v v' : Value} (h : d < 16) : setL (arrL 80 (edF (upd rv d v) av P ow)) (d * 3 + 0) [v'] = arrL 80 (edF (upd rv d v') av P ow) := by rw [ed_srv h, upd_upd]
theorem ed_sav2 {rv av : Nat → Value} {P : Pl} {ow : Nat → Bool} {d : Nat} {v v' : Value} (h : d < 16) : setL (arrL 80 (edF rv (upd av d v) P ow)) (d * 3 + 1) [v'] = arrL 80 (edF rv (upd av d v') P ow) := by rw [ed_sav h, upd_upd]
theorem has_mid1 {D : List Nat} {w0 w : World} {x : Nat × Obj} {T l : List (Nat × Obj)} (h : Has D w0 (x :: (T ++ l)) w) : Has D w0 (x :: (l ++ T)) w := h.perm (List.Perm.cons _ List.perm_append_comm)
theorem has_rot {D : List Nat} {w0 w : World} {A T : List (Nat × Obj)} {y : Nat × Obj} (h : Has D w0 (A ++ (T ++ [y])) w) : Has D w0 (y :: (A ++ T)) w := h.perm (by rw [← List.append_assoc]; exact List.perm_append_comm)
theorem row_blk3 {v : Value} {n size : Nat} {xs : List Value} {e : TypeId} {E : List (Nat × Obj)} (h : Row v n xs size e E) (h0 : 0 < n) : ∃ b cap junk, v = .slice (some ⟨b, 0, none⟩) n cap ∧ (xs ++ junk).length = cap * size ∧ n ≤ cap ∧ E = [(b, C (xs ++ junk) e)] := by
  rcases h with ⟨_, h2, _, _⟩ | ⟨b, cap', junk, h1, _, h3, h4, h5⟩
  · omega
  · exact ⟨b, cap', junk, h1, h3, h4, h5⟩
/-- where a slice begins that may be empty at the end of its row -/
theorem from_of (b cap q size : Nat) : ∃ od, (cap = q ∨ od = q * size) ∧ (od = 0 ∨ od = q * size) ∧ (if cap = q then some (⟨b, 0, none⟩ : Addr) else some ⟨b, 0 + q * size, none⟩) = some ⟨b, od, none⟩ := by
  by_cases h : cap = q
  · exact ⟨0, .inl h, .inl rfl, by rw [if_pos h]⟩
  · exact ⟨q * size, .inr rfl, .inr rfl, by rw [if_neg h, Nat.zero_add]⟩
theorem fl_take_one {α : Type} {f : α → List Value} {s : Nat} (hs : ∀ a, (f a).length = s) (h1 : ∀ a, (f a).all (·.oneCell') = true) (l : List α) (junk : List Value) (o k : Nat) (h : o + k ≤ l.length * s) : (((fl f l ++ junk).drop o).take k).all (·.oneCell') = true := by
  rw [List.all_eq_true]
  intro v hv
  have hl := fl_len hs l
  have : v ∈ ((fl f l).drop o).take k := by
    rw [List.drop_append_of_le_length (by omega), List.take_append_of_le_length (by rw [List.length_drop]; omega)] at hv
    exact hv
  exact List.all_eq_true.1 (fl_all h1 l) v (List.mem_of_mem_drop (List.mem_of_mem_take this))
theorem fnd_true {l : List Rt} {a n : Int} (h : fnd l a n = true) : ∃ r, l[fp l a n]? = some r ∧ r.a = a ∧ r.l = n := by
  unfold fnd at h
  split at h
  · rename_i r hr
    exact ⟨r, hr, by simpa using h⟩
  · cases h
/-- an element goes in: the row -/
theorem row_ins {α : Type} {f : α → List Value} {s : Nat} (hs : ∀ a, (f a).length = s) {l : List α} {r : α} {junk : List Value} {z : List Value} {b cap i : Nat} {e : TypeId} (hz : z.length = s) (hl : (fl f l ++ z ++ junk).length = cap * s) (hi : i ≤ l.length) (hc : l.length + 1 ≤ cap) :
    Row (.slice (some ⟨b, 0, none⟩) (l.length + 1) cap) (l.take i ++ r :: l.drop i).length (fl f (l.take i ++ r :: l.drop i)) s e [(b, C (fl f (l.take i ++ r :: l.drop i) ++ junk) e)] := by
  have e1 : (l.take i ++ r :: l.drop i).length = l.length + 1 := by rw [List.length_append, List.length_cons, List.length_take, List.length_drop]; omega
  rw [e1]
  refine .inr ⟨b, cap, junk, rfl, by rw [fl_len hs, e1], ?_, hc, rfl⟩
  rw [← hl]
  simp only [List.length_append, fl_len hs, List.length_append, List.length_cons, List.length_take, List.length_drop, hz]
  rw [Nat.min_eq_left hi, show i + (l.length - i + 1) = l.length + 1 by omega, Nat.succ_mul]
theorem row_del {α : Type} {f : α → List Value} {s : Nat} (hs : ∀ a, (f a).length = s) {l : List α} {junk : List Value} {b cap i : Nat} {e : TypeId} (hl : (fl f (l.take i ++ l.drop (i + 1)) ++ junk).length = cap * s) (hi : i < l.length) (hc : l.length ≤ cap) {m : Nat} (hm : m = l.length - i - 1) :
    Row (.slice (some ⟨b, 0, none⟩) (i + m) cap) (l.take i ++ l.drop (i + 1)).length (fl f (l.take i ++ l.drop (i + 1))) s e [(b, C (fl f (l.take i ++ l.drop (i + 1)) ++ junk) e)] := by
  have e1 : (l.take i ++ l.drop (i + 1)).length = i + m := by rw [List.length_append, List.length_take, List.length_drop]; omega
  rw [e1]
  exact .inr ⟨b, cap, junk, rfl, by rw [fl_len hs, e1], hl, by omega, rfl⟩
theorem setL_len {l vs : List Value} {o : Nat} (h : o + vs.length ≤ l.length) : (setL l o vs).length = l.length := by
  unfold setL
  simp only [List.length_append, List.length_take, List.length_drop]
  omega
theorem cp_len {L : List Value} {od o k n : Nat} (hl : L.length = n) (h1 : od + k ≤ n) : (setL L od ((L.drop o).take k)).length = n := by
  rw [setL_len (by rw [List.length_take]; omega), hl]
theorem ins_rt (l : List Rt) (a n v : Int) (junk : List Value) (i od c : Nat) (hi : i ≤ l.length) (hc : c = l.length - i) (ho : c = 0 ∨ od = (i + 1) * 3) :
    setL (setL (fl Rt.vals l ++ ([.int .u8 0, .int .u8 0, .int .u8 0] : List Value) ++ junk) od (((fl Rt.vals l ++ ([.int .u8 0, .int .u8 0, .int .u8 0] : List Value) ++ junk).drop (0 + i * 3)).take (c * 3))) (0 + i * 3) [.int .u8 a, .int .u8 n, .int .u8 v] = fl Rt.vals (l.take i ++ ⟨a, n, v⟩ :: l.drop i) ++ junk := by
  rw [Nat.zero_add]
  exact ins_set rt_len l ⟨a, n, v⟩ ([.int .u8 0, .int .u8 0, .int .u8 0] : List Value) junk rfl i od c hi hc ho
theorem ins_rl (l : List Rl) (pm : Bool) (a n v : Int) (junk : List Value) (i od c : Nat) (hi : i ≤ l.length) (hc : c = l.length - i) (ho : c = 0 ∨ od = (i + 1) * 4) :
    setL (setL (fl Rl.vals l ++ ([.bool false, .int .u8 0, .int .u8 0, .int .u8 0] : List Value) ++ junk) od (((fl Rl.vals l ++ ([.bool false, .int .u8 0, .int .u8 0, .int .u8 0] : List Value) ++ junk).drop (0 + i * 4)).take (c * 4))) (0 + i * 4) [.bool pm, .int .u8 a, .int .u8 n, .int .u8 v] = fl Rl.vals (l.take i ++ ⟨pm, a, n, v⟩ :: l.drop i) ++ junk := by
  rw [Nat.zero_add]
  exact ins_set rl_len l ⟨pm, a, n, v⟩ ([.bool false, .int .u8 0, .int .u8 0, .int .u8 0] : List Value) junk rfl i od c hi hc ho
theorem insR_rs (P : Pl) (d : Nat) (r : Rt) : (insR P d r).rs d = (P.rs d).take (fp (P.rs d) r.a r.l) ++ r :: (P.rs d).drop (fp (P.rs d) r.a r.l) := upd_same _ _ _
theorem insA_al (P : Pl) (d i : Nat) (r : Rl) : (insA P d i r).al d = (P.al d).take i ++ r :: (P.al d).drop i := upd_same _ _ _
theorem delR_rs (P : Pl) (d i : Nat) : (delR P d i).rs d = (P.rs d).take i ++ (P.rs d).drop (i + 1) := upd_same _ _ _
theorem delA_al (P : Pl) (d i : Nat) : (delA P d i).al d = (P.al d).take i ++ (P.al d).drop (i + 1) := upd_same _ _ _
theorem cp_one {α : Type} {f : α → List Value} {s : Nat} (hs : ∀ a, (f a).length = s) (h1 : ∀ a, (f a).all (·.oneCell') = true) (l : List α) (z junk : List Value) (o k : Nat) (h : o + k ≤ l.length * s) : (((fl f l ++ z ++ junk).drop o).take k).all (·.oneCell') = true := by
  rw [List.append_assoc]; exact fl_take_one hs h1 l (z ++ junk) o k h
theorem min_right' {a b c : Nat} (h1 : b ≤ a) (h2 : b = c) : Nat.min a b = c := (Nat.min_eq_right h1).trans h2

end Go.Proofs.Qxb6500907a

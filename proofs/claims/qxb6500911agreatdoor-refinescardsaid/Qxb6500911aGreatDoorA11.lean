import Derived.Test.Qxb6500911aGreatDoorA10
namespace Go.Proofs.Qxb6500911aGreatDoor
open Go.Eng
set_option linter.unusedVariables false
set_option linter.unusedSimpArgs false
theorem fld91_1 : fieldOk Tryz.prog 91 1 16 = true := by kernel_rfl
theorem arr89 : arrOk Tryz.prog 89 16 1 = true := by kernel_rfl
theorem one88 : oneOk Tryz.prog 88 = true := by kernel_rfl
theorem cal87 : callable Tryz.prog 87 = true := by kernel_rfl
theorem fld91_0 : fieldOk Tryz.prog 91 0 0 = true := by kernel_rfl
theorem arr43 : arrOk Tryz.prog 43 16 1 = true := by kernel_rfl
theorem cal64 : callable Tryz.prog 64 = true := by kernel_rfl
theorem bld150 : buildOk Tryz.prog 150 [(0, 1), (1, 16), (17, 1)] = true := by kernel_rfl
theorem cal69 : callable Tryz.prog 69 = true := by kernel_rfl
theorem cal60 : callable Tryz.prog 60 = true := by kernel_rfl
theorem slc114 : slcOk Tryz.prog 114 1 = true := by kernel_rfl
theorem fld150_1 : fieldOk Tryz.prog 150 1 1 = true := by kernel_rfl
theorem fld150_2 : fieldOk Tryz.prog 150 2 17 = true := by kernel_rfl
theorem cal70 : callable Tryz.prog 70 = true := by kernel_rfl
/-! ## the waits of one task: lists of Wt by rising epoch; plain -/
def cntN (f : Nat → Int) : Nat → Nat
  | 0 => 0
  | n + 1 => cntN f n + (if f n = 0 then 0 else 1)
theorem cntN_ext {f g : Nat → Int} : ∀ n, (∀ i, i < n → f i = g i) → cntN f n = cntN g n
  | 0, _ => rfl
  | n + 1, h => by unfold cntN; rw [cntN_ext n (fun i hi => h i (by omega)), h n (by omega)]
theorem cntN_upd {f : Nat → Int} {h : Nat} {v : Int} : ∀ n, h < n → cntN (fun i => if i = h then v else f i) n + (if f h = 0 then 0 else 1) = cntN f n + (if v = 0 then 0 else 1)
  | 0, hh => by omega
  | n + 1, hh => by
    unfold cntN
    by_cases c : h = n
    · subst c
      rw [if_pos rfl, cntN_ext h (g := f) (fun i hi => by rw [if_neg (by omega)])]
      omega
    · have := cntN_upd (f := f) (v := v) n (show h < n by omega)
      rw [if_neg (show ¬ n = h by omega)]
      omega
theorem cntN_zero {f : Nat → Int} : ∀ n, cntN f n = 0 ↔ ∀ i, i < n → f i = 0
  | 0 => ⟨fun _ i hi => absurd hi (by omega), fun _ => rfl⟩
  | n + 1 => by
    unfold cntN
    constructor
    · intro h i hi
      by_cases c : f n = 0
      · rw [if_pos c, Nat.add_zero] at h
        rcases Nat.lt_or_ge i n with h1 | h1
        · exact (cntN_zero n).1 h i h1
        · rw [show i = n by omega]; exact c
      · rw [if_neg c] at h; omega
    · intro h
      rw [(cntN_zero n).2 (fun i hi => h i (by omega)), if_pos (h n (by omega))]
theorem cntN_le (f : Nat → Int) : ∀ n, cntN f n ≤ n
  | 0 => Nat.le_refl _
  | n + 1 => by unfold cntN; have := cntN_le f n; split <;> omega
def bump1 (c : Int) (x : Wt) (h : Nat) : Wt :=
  ⟨x.e, fun i => if i = h then x.net h + c else x.net i, if x.net h + c = 0 then (if x.net h = 0 then x.ms + 1 else x.ms) - 1 else (if x.net h = 0 then x.ms + 1 else x.ms)⟩
def bump (c : Int) (x : Wt) (hs : List Nat) : Wt := hs.foldl (bump1 c) x
def newW (e : Int) : Wt := ⟨e, fun _ => 0, 0⟩
def putW (x : Wt) (l : List Wt) : List Wt := if x.ms = 0 then l else x :: l
def adjL (e : Int) (s : BitVec 16) (c : Int) : List Wt → List Wt
  | [] => putW (bump c (newW e) (tasksB s)) []
  | x :: l => if x.e < e then x :: adjL e s c l else if x.e = e then putW (bump c x (tasksB s)) l else putW (bump c (newW e) (tasksB s)) (x :: l)
def insW (l : List Wt) (i : Nat) (e : Int) : List Wt := if fndW l i e then l else l.take i ++ newW e :: l.drop i
def adjAt (l : List Wt) (i : Nat) (e : Int) (s : BitVec 16) (c : Int) : List Wt :=
  if (bump c ((insW l i e).getD i (newW e)) (tasksB s)).ms = 0 then (insW l i e).take i ++ (insW l i e).drop (i + 1) else (insW l i e).set i (bump c ((insW l i e).getD i (newW e)) (tasksB s))
theorem adjAt_eq (e : Int) (s : BitVec 16) (c : Int) : ∀ (l : List Wt) (i : Nat), i ≤ l.length → (∀ k x, l[k]? = some x → (k < i ↔ x.e < e)) → adjAt l i e s c = adjL e s c l
  | [], i, hi, _ => by
    have : i = 0 := by simpa using hi
    subst this
    simp only [adjAt, adjL, insW, fndW, putW]
    simp
  | x :: l, 0, hi, h => by
    have hx : ¬ x.e < e := fun hc => absurd ((h 0 x rfl).2 hc) (by omega)
    simp only [adjAt, adjL, insW, fndW, putW, List.getElem?_cons_zero, if_neg hx]
    by_cases hc : x.e = e
    · rw [if_pos hc]; simp [hc]
    · rw [if_neg hc]; simp [hc]
  | x :: l, i + 1, hi, h => by
    have hx : x.e < e := (h 0 x rfl).1 (by omega)
    have ih := adjAt_eq e s c l i (by simpa using hi) (fun k y hy => by have := h (k + 1) y (by simpa using hy); omega)
    rw [adjL, if_pos hx, ← ih]
    have e1 : insW (x :: l) (i + 1) e = x :: insW l i e := by
      unfold insW
      rw [show fndW (x :: l) (i + 1) e = fndW l i e by simp [fndW]]
      split <;> simp
    unfold adjAt
    rw [e1]
    simp only [List.getD_cons_succ, List.take_succ_cons, List.drop_succ_cons, List.set_cons_succ, List.cons_append]
    split <;> rfl
def nt : List Wt → Int → Nat → Int
  | [], _, _ => 0
  | x :: l, e, h => if x.e = e then x.net h else nt l e h
structure WtC (x : Wt) : Prop where
  cnt : x.ms = (cntN x.net 16 : Int)
  hi : ∀ h, 16 ≤ h → x.net h = 0
structure WsOk (l : List Wt) (f : Int) : Prop where
  srt : l.Pairwise (fun x y => x.e < y.e)
  low : ∀ x, x ∈ l → f ≤ x.e
  ok : ∀ x, x ∈ l → WtC x
  nz : ∀ x, x ∈ l → x.ms ≠ 0
theorem WsOk.nil (f : Int) : WsOk [] f := ⟨List.Pairwise.nil, nofun, nofun, nofun⟩
theorem WsOk.tail {x : Wt} {l : List Wt} {f : Int} (h : WsOk (x :: l) f) : WsOk l f := ⟨(List.pairwise_cons.1 h.srt).2, fun y hy => h.low y (.tail _ hy), fun y hy => h.ok y (.tail _ hy), fun y hy => h.nz y (.tail _ hy)⟩
theorem WsOk.cons {x : Wt} {l : List Wt} {f : Int} (h : WsOk l f) (h1 : ∀ y, y ∈ l → x.e < y.e) (h2 : f ≤ x.e) (h3 : WtC x) (h4 : x.ms ≠ 0) : WsOk (x :: l) f :=
  ⟨List.pairwise_cons.2 ⟨h1, h.srt⟩, fun y hy => by rcases List.mem_cons.1 hy with rfl | hy; exact h2; exact h.low y hy, fun y hy => by rcases List.mem_cons.1 hy with rfl | hy; exact h3; exact h.ok y hy, fun y hy => by rcases List.mem_cons.1 hy with rfl | hy; exact h4; exact h.nz y hy⟩
theorem WtC.new (e : Int) : WtC (newW e) := ⟨by have := (cntN_zero (f := fun _ => (0 : Int)) 16).2 (fun _ _ => rfl); simp only [newW]; rw [this]; rfl, fun _ _ => rfl⟩
theorem wtC_bump1 {x : Wt} {c : Int} {h : Nat} (hx : WtC x) (hh : h < 16) : WtC (bump1 c x h) := by
  refine ⟨?_, fun i hi => ?_⟩
  · have e1 := cntN_upd (f := x.net) (v := x.net h + c) 16 hh
    have e2 := hx.cnt
    simp only [bump1]
    generalize cntN (fun i => if i = h then x.net h + c else x.net i) 16 = k at e1
    rw [e2]
    by_cases c1 : x.net h = 0 <;> by_cases c2 : x.net h + c = 0
    · rw [if_pos c1, if_pos c2] at e1; rw [if_pos c1, if_pos c2]; omega
    · rw [if_pos c1, if_neg c2] at e1; rw [if_pos c1, if_neg c2]; omega
    · rw [if_neg c1, if_pos c2] at e1; rw [if_neg c1, if_pos c2]; omega
    · rw [if_neg c1, if_neg c2] at e1; rw [if_neg c1, if_neg c2]; omega
  · simp only [bump1]; rw [if_neg (by omega)]; exact hx.hi i hi
theorem bump1_e (c : Int) (x : Wt) (h : Nat) : (bump1 c x h).e = x.e := rfl
theorem bump_e (c : Int) : ∀ (hs : List Nat) (x : Wt), (bump c x hs).e = x.e
  | [], _ => rfl
  | h :: hs, x => by show (bump c (bump1 c x h) hs).e = _; rw [bump_e c hs]; rfl
theorem wtC_bump {c : Int} : ∀ (hs : List Nat) (x : Wt), WtC x → (∀ h, h ∈ hs → h < 16) → WtC (bump c x hs)
  | [], _, h, _ => h
  | k :: hs, x, h, h2 => wtC_bump hs (bump1 c x k) (wtC_bump1 h (h2 k (.head _))) (fun j hj => h2 j (.tail _ hj))
theorem bump_net (c : Int) : ∀ (hs : List Nat) (x : Wt) (i : Nat), hs.Nodup → (bump c x hs).net i = x.net i + (if i ∈ hs then c else 0)
  | [], x, i, _ => by simp [bump]
  | k :: hs, x, i, hn => by
    show (bump c (bump1 c x k) hs).net i = _
    obtain ⟨h1, h2⟩ := List.nodup_cons.1 hn
    rw [bump_net c hs (bump1 c x k) i h2]
    simp only [bump1, List.mem_cons]
    by_cases e : i = k
    · subst e; rw [if_pos rfl, if_neg h1, if_pos (.inl rfl)]; omega
    · rw [if_neg e]; simp only [e, false_or]
theorem mem_tasks {m : BitVec 16} {t : Nat} : t ∈ tasksB m ↔ m.getLsbD t = true := by
  unfold tasksB
  rw [List.mem_filter, List.mem_range]
  constructor
  · exact fun h => h.2
  · intro h
    refine ⟨?_, h⟩
    apply Classical.byContradiction
    intro hn
    rw [BitVec.getLsbD_of_ge _ _ (by omega)] at h
    cases h
theorem tasks_nodup (m : BitVec 16) : (tasksB m).Nodup := List.Pairwise.filter _ List.nodup_range
theorem tasks_lt {m : BitVec 16} {t : Nat} (h : t ∈ tasksB m) : t < 16 := by unfold tasksB at h; exact List.mem_range.1 (List.mem_filter.1 h).1
theorem nt_none {l : List Wt} {e : Int} {h : Nat} (hn : ∀ x, x ∈ l → x.e ≠ e) : nt l e h = 0 := by
  induction l with
  | nil => rfl
  | cons x l ih => rw [nt, if_neg (hn x (.head _)), ih (fun y hy => hn y (.tail _ hy))]
theorem nt_put {x : Wt} {l : List Wt} {e : Int} {h : Nat} (hx : WtC x) (hl : ∀ y, y ∈ l → x.e < y.e) : nt (putW x l) e h = if x.e = e then x.net h else nt l e h := by
  unfold putW
  split
  · rename_i h0
    split
    · rename_i h1
      subst h1
      rw [nt_none (fun y hy => by have := hl y hy; omega)]
      rcases Nat.lt_or_ge h 16 with h2 | h2
      · have := hx.cnt
        exact ((cntN_zero 16).1 (by omega) h h2).symm
      · exact (hx.hi h h2).symm
    · rfl
  · rfl
theorem putW_ok {x : Wt} {l : List Wt} {f : Int} (h : WsOk l f) (h1 : ∀ y, y ∈ l → x.e < y.e) (h2 : f ≤ x.e) (h3 : WtC x) : WsOk (putW x l) f := by
  unfold putW
  split
  · exact h
  · exact h.cons h1 h2 h3 (by assumption)
theorem bumpN_ok {e c : Int} {s : BitVec 16} : WtC (bump c (newW e) (tasksB s)) := wtC_bump _ _ (WtC.new e) (fun _ h => tasks_lt h)
theorem mem_put {x y : Wt} {l : List Wt} (h : y ∈ putW x l) : y = x ∨ y ∈ l := by
  unfold putW at h
  split at h
  · exact .inr h
  · exact List.mem_cons.1 h
theorem adj_mem {e c : Int} {s : BitVec 16} : ∀ {l : List Wt} {y : Wt}, y ∈ adjL e s c l → y.e = e ∨ y ∈ l
  | [], y, h => by
    rcases mem_put h with rfl | h
    · left; rw [bump_e]; rfl
    · cases h
  | x :: l, y, h => by
    rw [adjL] at h
    split at h
    · rcases List.mem_cons.1 h with rfl | h
      · exact .inr (.head _)
      · rcases adj_mem h with h | h
        · exact .inl h
        · exact .inr (.tail _ h)
    · split at h
      · rename_i h1
        rcases mem_put h with rfl | h
        · left; rw [bump_e]; exact h1
        · exact .inr (.tail _ h)
      · rcases mem_put h with rfl | h
        · left; rw [bump_e]; rfl
        · exact .inr h
theorem adj_ok {e c f : Int} {s : BitVec 16} (he : f ≤ e) : ∀ {l : List Wt}, WsOk l f → WsOk (adjL e s c l) f
  | [], h => putW_ok h nofun (by rw [bump_e]; exact he) bumpN_ok
  | x :: l, h => by
    have hp := (List.pairwise_cons.1 h.srt).1
    rw [adjL]
    split
    · rename_i h1
      exact (adj_ok he h.tail).cons (fun y hy => by rcases adj_mem hy with h2 | h2; omega; exact hp y h2) (h.low x (.head _)) (h.ok x (.head _)) (h.nz x (.head _))
    · split
      · rename_i h1 h2
        exact putW_ok h.tail (fun y hy => by rw [bump_e]; exact hp y hy) (by rw [bump_e]; exact h.low x (.head _)) (wtC_bump _ _ (h.ok x (.head _)) (fun _ h => tasks_lt h))
      · rename_i h1 h2
        refine putW_ok h (fun y hy => ?_) (by rw [bump_e]; exact he) bumpN_ok
        rw [bump_e]
        rcases List.mem_cons.1 hy with rfl | hy
        · show e < y.e; omega
        · have := hp y hy; show e < y.e; omega
theorem adj_nt {e c f : Int} {s : BitVec 16} : ∀ {l : List Wt}, WsOk l f → ∀ e' h, nt (adjL e s c l) e' h = nt l e' h + (if e' = e ∧ s.getLsbD h = true then c else 0)
  | [], h0, e', h => by
    rw [adjL, nt_put (l := []) bumpN_ok (fun y hy => nomatch hy), bump_e, bump_net _ _ _ _ (tasks_nodup _)]
    simp only [newW, nt, mem_tasks]
    by_cases h1 : e = e'
    · subst h1; rw [if_pos rfl]; simp only [true_and]
    · rw [if_neg h1, if_neg (fun hc => h1 hc.1.symm)]; rfl
  | x :: l, h0, e', h => by
    have hp := (List.pairwise_cons.1 h0.srt).1
    rw [adjL]
    split
    · rename_i h1
      rw [nt, nt, adj_nt h0.tail]
      split
      · rename_i h2; rw [if_neg (fun hc => by omega)]; omega
      · rfl
    · split
      · rename_i h1 h2
        rw [nt_put (wtC_bump _ _ (h0.ok x (.head _)) (fun _ h => tasks_lt h)) (fun y hy => by rw [bump_e]; exact hp y hy), bump_e, bump_net _ _ _ _ (tasks_nodup _), nt, h2]
        simp only [mem_tasks]
        by_cases h3 : e = e'
        · subst h3; rw [if_pos rfl, if_pos rfl]; simp only [true_and]
        · rw [if_neg h3, if_neg h3, if_neg (fun hc => h3 hc.1.symm)]; omega
      · rename_i h1 h2
        rw [nt_put bumpN_ok (fun y hy => by
          rw [bump_e]
          rcases List.mem_cons.1 hy with rfl | hy
          · show e < y.e; omega
          · have := hp y hy; show e < y.e; omega), bump_e, bump_net _ _ _ _ (tasks_nodup _)]
        simp only [newW, mem_tasks]
        by_cases h3 : e = e'
        · subst h3
          rw [if_pos rfl, nt_none (l := x :: l) (fun y hy => by rcases List.mem_cons.1 hy with rfl | hy; omega; have := hp y hy; omega)]
          simp only [true_and]
        · rw [if_neg h3, if_neg (fun hc => h3 hc.1.symm)]; omega
/-- the waits over, up to epoch e -/
def endL (e : Int) (l : List Wt) : List Wt := l.filter (fun x => decide (e < x.e))
theorem endL_eq (e : Int) : ∀ (l : List Wt) (i : Nat), i ≤ l.length → l.Pairwise (fun x y => x.e < y.e) → (∀ k x, l[k]? = some x → (k < i ↔ x.e < e + 1)) → l.drop i = endL e l
  | [], i, _, _, _ => by simp [endL]
  | x :: l, 0, hi, hs, h => by
    have hx : ¬ x.e < e + 1 := fun hc => absurd ((h 0 x rfl).2 hc) (by omega)
    rw [List.drop_zero, endL, List.filter_eq_self.2]
    intro y hy
    rw [decide_eq_true_eq]
    rcases List.mem_cons.1 hy with rfl | hy
    · omega
    · have := (List.pairwise_cons.1 hs).1 y hy; omega
  | x :: l, i + 1, hi, hs, h => by
    have hx : x.e < e + 1 := (h 0 x rfl).1 (by omega)
    rw [List.drop_succ_cons, endL_eq e l i (by simpa using hi) (List.pairwise_cons.1 hs).2 (fun k y hy => by have := h (k + 1) y (by simpa using hy); omega)]
    rw [endL, endL, List.filter_cons, if_neg (by rw [decide_eq_true_eq]; omega)]
theorem end_ok {e f : Int} {l : List Wt} (h : WsOk l f) : WsOk (endL e l) (e + 1) :=
  ⟨h.srt.filter _, fun x hx => by have := (List.mem_filter.1 hx).2; rw [decide_eq_true_eq] at this; omega, fun x hx => h.ok x (List.mem_filter.1 hx).1, fun x hx => h.nz x (List.mem_filter.1 hx).1⟩
theorem end_nt (e : Int) : ∀ (l : List Wt) (e' : Int) (h : Nat), nt (endL e l) e' h = if e' ≤ e then 0 else nt l e' h
  | [], e', h => by simp [endL, nt]
  | x :: l, e', h => by
    have ih := end_nt e l e' h
    unfold endL at ih ⊢
    rw [List.filter_cons]
    split
    · rename_i h1
      rw [decide_eq_true_eq] at h1
      rw [nt, nt, ih]
      by_cases c : x.e = e'
      · rw [if_pos c, if_neg (by omega), if_pos c]
      · rw [if_neg c, if_neg c]
    · rename_i h1
      rw [decide_eq_true_eq] at h1
      rw [ih, nt]
      split
      · rfl
      · rw [if_neg (by omega)]
theorem WtC.ext {x y : Wt} (hx : WtC x) (hy : WtC y) (he : x.e = y.e) (hn : ∀ h, x.net h = y.net h) : x = y := by
  have h1 := hx.cnt; have h2 := hy.cnt
  have h3 : x.net = y.net := funext hn
  rw [h3] at h1
  have h4 : x.ms = y.ms := by omega
  cases x; cases y
  simp only at he h3 h4
  subst he; subst h3; subst h4; rfl
theorem WsOk.nt_head {x : Wt} {l : List Wt} {f : Int} (h : WsOk (x :: l) f) : ∃ k, nt (x :: l) x.e k ≠ 0 := by
  apply Classical.byContradiction
  intro hn
  have hc := (h.ok x (.head _)).cnt
  have hz := h.nz x (.head _)
  refine hz ?_
  rw [hc, (cntN_zero 16).2 fun i _ => Classical.byContradiction fun hi => hn ⟨i, by rw [nt, if_pos rfl]; exact hi⟩]
  rfl
theorem WsOk.head_le {x y : Wt} {l m : List Wt} {f g : Int} (h : WsOk (x :: l) f) (h2 : WsOk (y :: m) g) (hn : ∀ e k, nt (x :: l) e k = nt (y :: m) e k) : y.e ≤ x.e := by
  obtain ⟨k, hk⟩ := h.nt_head
  rw [hn] at hk
  apply Classical.byContradiction
  intro hc
  refine hk (nt_none fun z hz => ?_)
  rcases List.mem_cons.1 hz with rfl | hz
  · omega
  · have := (List.pairwise_cons.1 h2.srt).1 z hz; omega
/-- the list is known by its nets -/
theorem ws_ext : ∀ {l m : List Wt} {f g : Int}, WsOk l f → WsOk m g → (∀ e k, nt l e k = nt m e k) → l = m
  | [], [], _, _, _, _, _ => rfl
  | x :: l, [], f, g, h1, h2, hn => by
    obtain ⟨k, hk⟩ := h1.nt_head
    exact absurd (hn x.e k) hk
  | [], y :: m, f, g, h1, h2, hn => by
    obtain ⟨k, hk⟩ := h2.nt_head
    exact absurd (hn y.e k).symm hk
  | x :: l, y :: m, f, g, h1, h2, hn => by
    have e1 := h1.head_le h2 hn
    have e2 := h2.head_le h1 (fun e k => (hn e k).symm)
    have he : x.e = y.e := by omega
    have hxy : x = y := (h1.ok x (.head _)).ext (h2.ok y (.head _)) he (fun k => by
      have := hn x.e k
      rw [nt, nt, if_pos rfl, if_pos he.symm] at this; exact this)
    subst hxy
    congr 1
    refine ws_ext h1.tail h2.tail fun e k => ?_
    by_cases c : x.e = e
    · subst c
      rw [nt_none (fun z hz => by have := (List.pairwise_cons.1 h1.srt).1 z hz; omega), nt_none (fun z hz => by have := (List.pairwise_cons.1 h2.srt).1 z hz; omega)]
    · have := hn e k
      rw [nt, nt, if_neg c, if_neg c] at this; exact this


/-! ## one task's waits within the graph's block -/
theorem sh_floor {f : Nat → Value} {c w : Nat} (hc : c < 4) (hw : w < 16) : (arrL 146 f)[0 + 18 + c * 32 + 0 + w * 1]? = some (f (18 + 32 * c + w)) := by
  rw [show 0 + 18 + c * 32 + 0 + w * 1 = 18 + 32 * c + w by omega, arrL_get (by omega)]
theorem sh_waits {f : Nat → Value} {c w : Nat} (hc : c < 4) (hw : w < 16) : (arrL 146 f)[0 + 18 + c * 32 + 16 + w * 1]? = some (f (34 + 32 * c + w)) := by
  rw [show 0 + 18 + c * 32 + 16 + w * 1 = 34 + 32 * c + w by omega, arrL_get (by omega)]
theorem set_floor {f : Nat → Value} {c w : Nat} {v : Value} (hc : c < 4) (hw : w < 16) : setL (arrL 146 f) (0 + 18 + c * 32 + 0 + w * 1) [v] = arrL 146 (updV f (18 + 32 * c + w) v) := by
  rw [show 0 + 18 + c * 32 + 0 + w * 1 = 18 + 32 * c + w by omega]; exact arrL_set (by omega)
theorem set_waits {f : Nat → Value} {c w : Nat} {v : Value} (hc : c < 4) (hw : w < 16) : setL (arrL 146 f) (0 + 18 + c * 32 + 16 + w * 1) [v] = arrL 146 (updV f (34 + 32 * c + w) v) := by
  rw [show 0 + 18 + c * 32 + 16 + w * 1 = 34 + 32 * c + w by omega]; exact arrL_set (by omega)
structure ShR (f : Nat → Value) (c w : Nat) (fz : Int) (l : List Wt) (E : List (Nat × Obj)) : Prop where
  flr : f (18 + 32 * c + w) = .int .u64 fz
  row : Row (f (34 + 32 * c + w)) l.length (fl wtc l) 18 150 E
theorem ShR.cell {f : Nat → Value} {c w : Nat} {fz : Int} {l : List Wt} {E : List (Nat × Obj)} (h : ShR f c w fz l E) (hc : c < 4) (hw : w < 16) : (arrL 146 f)[0 + 18 + c * 32 + 0 + w * 1]? = some (.int .u64 fz) := by rw [sh_floor hc hw, h.flr]
/-- heap as the walks of the graph find it: the laid table lies apart -/
def PreT (tT : TypeId) (tf : Nat × Nat) (F : List (Nat × Obj)) (w : World) : Prop := w.heap[0]? = some (.cells ⟨tabL⟩ tT tf) ∧ ∀ x, x ∈ F → x.1 ≠ 0
theorem pt_call {tT : TypeId} {tf : Nat × Nat} {F F1 Fn G : List (Nat × Obj)} {w0 w : World} (hh : Has (F.map Prod.fst) w0 F1 w) (hp : PreT tT tf F w0) (hk : Keeps F1 Fn G) : PreT tT tf Fn w := by
  have h0 : 0 ∉ F.map Prod.fst := fun h => by
    obtain ⟨x, hx, e⟩ := List.mem_map.1 h
    exact hp.2 x hx e
  refine ⟨hh.old hp.1 h0, fun x hx => ?_⟩
  have hx1 : x ∈ F1 := hk.perm.mem_iff.2 (List.mem_append_left _ hx)
  rcases hh.own x.1 x.2 hx1 with h | h
  · exact fun e => h0 (e ▸ h)
  · have := (Array.getElem?_eq_some_iff.1 hp.1).1; omega
theorem pt_heap {tT : TypeId} {tf : Nat × Nat} {F F1 : List (Nat × Obj)} {w0 w : World} (hh : Has (F.map Prod.fst) w0 F1 w) (hp : PreT tT tf F w0) : w.heap[0]? = some (.cells ⟨tabL⟩ tT tf) := (pt_call hh hp (Fn := []) keeps_nil).1
theorem tasks_pos {s : BitVec 16} (h : s ≠ 0#16) : 0 < (tasksB s).length := by
  obtain ⟨b, hb, h1, h2⟩ := low_ex h
  rw [tasks_cons hb h1 h2]; simp
theorem wtc_new (e : Int) : [.int .u64 e, .int .i64 0, .int .i64 0, .int .i64 0, .int .i64 0, .int .i64 0, .int .i64 0, .int .i64 0, .int .i64 0, .int .i64 0, .int .i64 0, .int .i64 0, .int .i64 0, .int .i64 0, .int .i64 0, .int .i64 0, .int .i64 0, .int .i64 0] = wtc (newW e) := by
  unfold wtc arrL newW; rfl
def setNet (y : Wt) (h : Nat) (v : Int) : Wt := ⟨y.e, fun i => if i = h then v else y.net i, y.ms⟩
def setMs (y : Wt) (m : Int) : Wt := ⟨y.e, y.net, m⟩
theorem setMs_net (y : Wt) (m : Int) : (setMs y m).net = y.net := rfl
theorem setMs_ms (y : Wt) (m : Int) : (setMs y m).ms = m := rfl
theorem setNet_ms (y : Wt) (h : Nat) (v : Int) : (setNet y h v).ms = y.ms := rfl
theorem setNet_self (y : Wt) (h : Nat) (v : Int) : (setNet y h v).net h = v := if_pos rfl
theorem wtc_net (y : Wt) {h : Nat} (hh : h < 16) : (wtc y)[1 + h]? = some (.int .i64 (y.net h)) := by
  unfold wtc
  rw [Nat.add_comm, List.getElem?_cons_succ, List.getElem?_append_left (by rw [arrL_length]; exact hh), arrL_get hh]
theorem wtc_ms (y : Wt) : (wtc y)[17]? = some (.int .i64 y.ms) := by
  unfold wtc
  rw [List.getElem?_cons_succ, List.getElem?_append_right (by rw [arrL_length]; exact Nat.le_refl _), arrL_length]; rfl
theorem wtc_setNet (y : Wt) {h : Nat} (hh : h < 16) (v : Int) : setL (wtc y) (1 + h) [.int .i64 v] = wtc (setNet y h v) := by
  have h1 := arrL_set (n := 16) (g := fun i => .int .i64 (y.net i)) (i := h) (v := .int .i64 v) hh
  have h2 : arrL 16 (updV (fun i => .int .i64 (y.net i)) h (.int .i64 v)) = arrL 16 (fun i => .int .i64 ((setNet y h v).net i)) := arrL_congr fun i _ => by
    unfold updV setNet; simp only; split <;> rfl
  rw [h2] at h1
  unfold wtc
  simp only [setNet_ms]
  rw [show (setNet y h v).e = y.e from rfl, ← h1]
  unfold setL
  rw [Nat.add_comm 1 h, List.take_succ_cons, List.take_append_of_le_length (by rw [arrL_length]; omega)]
  simp only [List.length_cons, List.length_nil, List.cons_append, List.append_assoc]
  rw [show h + 1 + (0 + 1) = (h + (0 + 1)) + 1 by omega, List.drop_succ_cons, List.drop_append_of_le_length (by rw [arrL_length]; omega)]
theorem wtc_setMs (y : Wt) (m : Int) : setL (wtc y) 17 [.int .i64 m] = wtc (setMs y m) := by
  unfold wtc
  simp only [setMs_net, setMs_ms]
  rw [show (setMs y m).e = y.e from rfl]
  have hl := arrL_length 16 (fun i => .int .i64 (y.net i))
  generalize arrL 16 (fun i => .int .i64 (y.net i)) = A at hl
  unfold setL
  rw [List.take_succ_cons, List.take_append_of_le_length (by omega), List.take_of_length_le (by omega)]
  simp only [List.length_cons, List.length_nil]
  rw [List.drop_eq_nil_of_le (by simp [hl])]
  simp
theorem setL_in {A B X Y : List Value} {o : Nat} (h : o + X.length ≤ B.length) : setL (A ++ (B ++ Y)) (A.length + o) X = A ++ (setL B o X ++ Y) := by
  unfold setL
  rw [List.take_append, List.take_of_length_le (by omega), show A.length + o - A.length = o by omega, List.take_append_of_le_length (by omega)]
  rw [show A.length + o + X.length = A.length + (o + X.length) by omega, ← List.drop_drop, List.drop_left, List.drop_append_of_le_length h]
  simp
theorem fl_setIn {l : List Wt} {i o : Nat} {y y' : Wt} {v : Value} {junk : List Value} (hi : i < l.length) (ho : o + 1 ≤ 18) (h : setL (wtc y) o [v] = wtc y') : setL (fl wtc (l.set i y) ++ junk) (0 + i * 18 + o) [v] = fl wtc (l.set i y') ++ junk := by
  have e : ∀ z : Wt, fl wtc (l.set i z) ++ junk = fl wtc (l.take i) ++ (wtc z ++ (fl wtc (l.drop (i + 1)) ++ junk)) := fun z => by
    rw [List.set_eq_take_append_cons_drop, if_pos hi, fl_append, fl_cons]; simp
  have hA : (fl wtc (l.take i)).length = i * 18 := by rw [fl_len wtc_len, List.length_take]; congr 1; omega
  rw [e, e, Nat.zero_add, ← hA, setL_in (by rw [wtc_len]; simpa using ho), h]
theorem st_net {l : List Wt} {i h : Nat} {y : Wt} {v : Int} {junk : List Value} (hi : i < l.length) (hh : h < 16) : setL (fl wtc (l.set i y) ++ junk) (0 + i * 18 + 1 + h * 1) [.int .i64 v] = fl wtc (l.set i (setNet y h v)) ++ junk := by
  rw [show 0 + i * 18 + 1 + h * 1 = 0 + i * 18 + (1 + h) by omega]
  exact fl_setIn hi (by omega) (wtc_setNet y hh v)
theorem st_ms {l : List Wt} {i : Nat} {y : Wt} {m : Int} {junk : List Value} (hi : i < l.length) : setL (fl wtc (l.set i y) ++ junk) (0 + i * 18 + 17) [.int .i64 m] = fl wtc (l.set i (setMs y m)) ++ junk :=
  fl_setIn hi (by omega) (wtc_setMs y m)
theorem ld_net {l : List Wt} {i h : Nat} {y : Wt} {junk : List Value} (hi : i < l.length) (hh : h < 16) : (fl wtc (l.set i y) ++ junk)[0 + i * 18 + 1 + h * 1]? = some (.int .i64 (y.net h)) := by
  rw [show 0 + i * 18 + 1 + h * 1 = 0 + i * 18 + (1 + h) by omega]
  exact fl_cell wtc_len (by rw [List.getElem?_set_self hi]) (wtc_net y hh) junk
theorem ld_ms {l : List Wt} {i : Nat} {y : Wt} {junk : List Value} (hi : i < l.length) : (fl wtc (l.set i y) ++ junk)[0 + i * 18 + 17]? = some (.int .i64 y.ms) :=
  fl_cell wtc_len (by rw [List.getElem?_set_self hi]) (wtc_ms y) junk
/-- what adjust finds where it works -/
structure AdjI (l : List Wt) (i : Nat) (e : Int) (l1 : List Wt) (x : Wt) : Prop where
  eq : l1 = insW l i e
  get : l1[i]? = some x
  new : x = newW e ∨ x ∈ l
theorem AdjI.lt {l l1 : List Wt} {i : Nat} {e : Int} {x : Wt} (h : AdjI l i e l1 x) : i < l1.length := (List.getElem?_eq_some_iff.1 h.get).1
theorem AdjI.found {l : List Wt} {i : Nat} {e : Int} (h : fndW l i e = true) : ∃ x, AdjI l i e l x := by
  have h2 := h
  unfold fndW at h2
  split at h2
  · rename_i x hx
    exact ⟨x, by unfold insW; rw [if_pos h], hx, .inr (List.mem_of_getElem? hx)⟩
  · cases h2
theorem AdjI.fresh {l : List Wt} {i : Nat} {e : Int} (h : fndW l i e = false) (hi : i ≤ l.length) : AdjI l i e (l.take i ++ newW e :: l.drop i) (newW e) := by
  refine ⟨by unfold insW; rw [if_neg (by rw [h]; simp)], ?_, .inl rfl⟩
  rw [List.getElem?_append_right (by rw [List.length_take]; omega), List.length_take, show i - min i l.length = 0 by omega]; rfl
theorem AdjI.res {l l1 : List Wt} {i : Nat} {e c : Int} {s : BitVec 16} {x : Wt} (h : AdjI l i e l1 x) : adjAt l i e s c = if (bump c x (tasksB s)).ms = 0 then l1.take i ++ l1.drop (i + 1) else l1.set i (bump c x (tasksB s)) := by
  unfold adjAt
  rw [← h.eq, List.getD_eq_getElem?_getD, h.get]; rfl
theorem AdjI.wtc {l l1 : List Wt} {i : Nat} {e f : Int} {x : Wt} (h : AdjI l i e l1 x) (hl : WsOk l f) : WtC x := by
  rcases h.new with h | h
  · rw [h]; exact WtC.new e
  · exact hl.ok x h
theorem set_same {α : Type} {l : List α} {i : Nat} {x : α} (h : l[i]? = some x) : l.set i x = l := by
  apply List.ext_getElem?
  intro j
  by_cases c : i = j
  · subst c; rw [List.getElem?_set_self (List.getElem?_eq_some_iff.1 h).1, h]
  · rw [List.getElem?_set_ne c]
theorem bump_snoc {c : Int} {x : Wt} {ts : List Nat} {j h : Nat} (hh : ts[j]? = some h) : bump c x (ts.take (j + 1)) = bump1 c (bump c x (ts.take j)) h := by
  unfold bump
  rw [List.take_add_one, hh, List.foldl_append]; rfl
theorem bump1_TT {c : Int} {y : Wt} {h : Nat} (h1 : y.net h = 0) (h2 : y.net h + c = 0) : setMs (setNet (setMs y (y.ms + 1)) h (y.net h + c)) (y.ms + 1 - 1) = bump1 c y h := by
  unfold bump1 setMs setNet; simp only; rw [if_pos h2, if_pos h1]
theorem bump1_TF {c : Int} {y : Wt} {h : Nat} (h1 : y.net h = 0) (h2 : ¬ y.net h + c = 0) : setNet (setMs y (y.ms + 1)) h (y.net h + c) = bump1 c y h := by
  unfold bump1 setMs setNet; simp only; rw [if_neg h2, if_pos h1]
theorem bump1_FT {c : Int} {y : Wt} {h : Nat} (h1 : ¬ y.net h = 0) (h2 : y.net h + c = 0) : setMs (setNet y h (y.net h + c)) (y.ms - 1) = bump1 c y h := by
  unfold bump1 setMs setNet; simp only; rw [if_pos h2, if_neg h1]
theorem bump1_FF {c : Int} {y : Wt} {h : Nat} (h1 : ¬ y.net h = 0) (h2 : ¬ y.net h + c = 0) : setNet y h (y.net h + c) = bump1 c y h := by
  unfold bump1 setNet; rw [if_neg h2, if_neg h1]
theorem adj_objeq {l1 : List Wt} {i j h : Nat} {c : Int} {x y : Wt} {ts : List Nat} {junk : List Value} {T : TypeId} (hh : ts[j]? = some h) (hy : y = bump1 c (bump c x (ts.take j)) h) : C (fl wtc (l1.set i y) ++ junk) T = C (fl wtc (l1.set i (bump c x (ts.take (j + 1)))) ++ junk) T := by
  rw [bump_snoc hh, hy]
theorem bump_bd {c B : Int} {x : Wt} {ts : List Nat} {j : Nat} (hn : ts.Nodup) (hc : c = 1 ∨ c = -1) (hx : ∀ h, -B ≤ x.net h ∧ x.net h ≤ B) (h : Nat) : -B - 1 ≤ (bump c x (ts.take j)).net h ∧ (bump c x (ts.take j)).net h ≤ B + 1 := by
  rw [bump_net c _ x h (hn.sublist (List.take_sublist _ _))]
  have := hx h
  split <;> omega
theorem WtC.ms_rng {x : Wt} (h : WtC x) : 0 ≤ x.ms ∧ x.ms ≤ 16 := by
  have := cntN_le x.net 16
  have := h.cnt
  omega
theorem adj_obj0 {l1 : List Wt} {i : Nat} {c : Int} {x : Wt} {ts : List Nat} {junk : List Value} {T : TypeId} (h : l1[i]? = some x) : C (fl wtc l1 ++ junk) T = C (fl wtc (l1.set i (bump c x (ts.take 0))) ++ junk) T := by
  rw [List.take_zero, show bump c x [] = x from rfl, set_same h]
theorem adj_oTT {l1 : List Wt} {i j h : Nat} {d : Int} {x y : Wt} {ts : List Nat} {junk : List Value} {T : TypeId} (hh : ts[j]? = some h) (hy : bump d x (ts.take j) = y) (h1 : y.net h = 0) (h2 : y.net h + d = 0) : C (fl wtc (l1.set i (setMs (setNet (setMs y (y.ms + 1)) h (y.net h + d)) (y.ms + 1 - 1))) ++ junk) T = C (fl wtc (l1.set i (bump d x (ts.take (j + 1)))) ++ junk) T := by
  rw [bump_snoc hh, hy, bump1_TT h1 h2]
theorem adj_oTF {l1 : List Wt} {i j h : Nat} {d : Int} {x y : Wt} {ts : List Nat} {junk : List Value} {T : TypeId} (hh : ts[j]? = some h) (hy : bump d x (ts.take j) = y) (h1 : y.net h = 0) (h2 : ¬ y.net h + d = 0) : C (fl wtc (l1.set i (setNet (setMs y (y.ms + 1)) h (y.net h + d))) ++ junk) T = C (fl wtc (l1.set i (bump d x (ts.take (j + 1)))) ++ junk) T := by
  rw [bump_snoc hh, hy, bump1_TF h1 h2]
theorem adj_oFT {l1 : List Wt} {i j h : Nat} {d : Int} {x y : Wt} {ts : List Nat} {junk : List Value} {T : TypeId} (hh : ts[j]? = some h) (hy : bump d x (ts.take j) = y) (h1 : ¬ y.net h = 0) (h2 : y.net h + d = 0) : C (fl wtc (l1.set i (setMs (setNet y h (y.net h + d)) (y.ms - 1))) ++ junk) T = C (fl wtc (l1.set i (bump d x (ts.take (j + 1)))) ++ junk) T := by
  rw [bump_snoc hh, hy, bump1_FT h1 h2]
theorem adj_oFF {l1 : List Wt} {i j h : Nat} {d : Int} {x y : Wt} {ts : List Nat} {junk : List Value} {T : TypeId} (hh : ts[j]? = some h) (hy : bump d x (ts.take j) = y) (h1 : ¬ y.net h = 0) (h2 : ¬ y.net h + d = 0) : C (fl wtc (l1.set i (setNet y h (y.net h + d))) ++ junk) T = C (fl wtc (l1.set i (bump d x (ts.take (j + 1)))) ++ junk) T := by
  rw [bump_snoc hh, hy, bump1_FF h1 h2]
theorem cut_set {l : List Wt} {i : Nat} {y : Wt} (hi : i < l.length) : (l.set i y).take i ++ (l.set i y).drop (i + 1) = l.take i ++ l.drop (i + 1) := by
  have hA : (l.take i).length = i := by rw [List.length_take]; omega
  rw [List.set_eq_take_append_cons_drop, if_pos hi]
  congr 1
  · rw [List.take_append_of_le_length (by omega), List.take_of_length_le (by omega)]
  · rw [List.drop_append, List.drop_eq_nil_of_le (by omega), hA, show i + 1 - i = 1 by omega]; rfl
theorem ms_cut {l l1 : List Wt} {i : Nat} {e d : Int} {s : BitVec 16} {x : Wt} {ts : List Nat} (hA : AdjI l i e l1 x) (hi : i ≤ l.length) (hk : ∀ (k : Nat) (x : Wt), l[k]? = some x → (k < i ↔ x.e < e)) (hts : ts = tasksB s) (h0 : (bump d x ts).ms = 0) : (l1.set i (bump d x ts)).take i ++ (l1.set i (bump d x ts)).drop (i + 1) = adjL e s d l := by
  rw [cut_set hA.lt, ← adjAt_eq e s d l i hi hk, hA.res, ← hts, if_pos h0]
theorem ms_set {l l1 : List Wt} {i : Nat} {e d : Int} {s : BitVec 16} {x : Wt} {ts : List Nat} (hA : AdjI l i e l1 x) (hi : i ≤ l.length) (hk : ∀ (k : Nat) (x : Wt), l[k]? = some x → (k < i ↔ x.e < e)) (hts : ts = tasksB s) (h0 : ¬ (bump d x ts).ms = 0) : l1.set i (bump d x ts) = adjL e s d l := by
  rw [← adjAt_eq e s d l i hi hk, hA.res, ← hts, if_neg h0]
theorem tk_at {ts : List Nat} {j h : Nat} {jt : List Value} (hh : ts[j]? = some h) : (fl tkc ts ++ jt)[0 + j * 1]? = some (.int .i64 (h : Int)) := fl_cell tkc_len (j := 0) hh rfl jt


theorem ins_spec (l : List Wt) (hl9 : l.length ≤ 100000000) (v : Value) (E : List (Nat × Obj)) (hR : Row v l.length (fl wtc l) 18 150 E) (i : Nat) (hi : i ≤ l.length) (x : Wt) (vb : Nat) (hvb : ∀ y, y ∈ E → vb ≠ y.1) : Sp Tryz.prog 69 #[v, .int .i64 (i : Int), .slice (some ⟨vb, 0, none⟩) 1 1] (E ++ [(vb, C (wtc x) 150)]) (fun v F' => Row v (l.length + 1) (fl wtc (l.take i ++ x :: l.drop i)) 18 150 F') := by
  rcases hR with ⟨rfl, h2, h3, rfl⟩ | ⟨b, cap, junk, rfl, h2, h3, h4, rfl⟩
  · have hl0 : l = [] := List.eq_nil_of_length_eq_zero h2
    subst hl0
    have : i = 0 := by simpa using hi
    subst this
    exact insN x vb
  · exact insB l hl9 b cap junk h3 h4 i hi x vb (hvb _ (List.mem_singleton.2 rfl))

set_option maxHeartbeats 1000000 in
theorem delW0 (p : Option Addr) (n c : Nat) (hn : n ≤ c) (hn9 : n ≤ 1000000000) : Sp Tryz.prog 70 #[.slice p n c, .int .i64 ((0 : Nat) : Int), .int .i64 ((0 : Nat) : Int)] [] (fun v F' => v = .slice p n c ∧ F' = []) := by
  refine f_enter (args := [.slice p n c, .int .i64 ((0 : Nat) : Int), .int .i64 ((0 : Nat) : Int)]) Tryz.func70 rfl Tryz.ntmps70 rfl ?_
  intro w0 w a hpre hl hh
  simp only [slotsFrom, Nat.reduceAdd] at hl
  refine c_seq ?_
  refine c_region ?_
  refine wl (wl_val hl rfl trivial (r_assign hl rfl) ?_)
  clear hl a; intro a hl
  refine w_nil ?_
  have hl2 := hl.add (t := 0) (hl.add (t := 1) (hl.add (t := 2) (hl.nil) rfl) rfl) rfl; clear hl; have hl := hl2; clear hl2
  refine then_normal ?_
  refine c_seq ?_
  refine c_region ?_
  refine wl (wl_val hl rfl trivial (r_move hl rfl) ?_)
  clear hl a; intro a hl
  refine wl (wl_val hl rfl trivial (r_move hl rfl) ?_)
  clear hl a; intro a hl
  refine wl (wl_val hl rfl trivial (r_move hl rfl) ?_)
  clear hl a; intro a hl
  refine wl (wl_val hl rfl trivial (r_move hl rfl) ?_)
  clear hl a; intro a hl
  refine wl (wl_val hl rfl trivial (r_lenS hl rfl slc88) ?_)
  clear hl a; intro a hl
  refine wl (w_slice3 hl rfl trivial slc88 rfl rfl rfl rfl (by omega) ?_)
  clear hl a; intro p13 a hl
  refine w_nil ?_
  have hl2 := hl.add (t := 0) (hl.add (t := 1) (hl.add (t := 2) (hl.nil) rfl) rfl) rfl; clear hl; have hl := hl2; clear hl2
  refine then_normal ?_
  refine c_seq ?_
  refine c_seq ?_
  refine c_region ?_
  refine wl (wl_val hl rfl trivial (r_move hl rfl) ?_)
  clear hl a; intro a hl
  refine wl (wl_val hl rfl trivial (r_move hl rfl) ?_)
  clear hl a; intro a hl
  refine wl (wl_val hl rfl trivial (r_eql hl rfl rfl) ?_)
  clear hl a; intro a hl
  refine w_nil ?_
  have hl2 := hl.add (t := 0) (hl.add (t := 1) (hl.add (t := 2) (hl.add (t := 16) (hl.nil) rfl) rfl) rfl) rfl; clear hl; have hl := hl2; clear hl2
  refine then_normal ?_
  refine c_cond hl rfl ?_ ?_
  · intro hc0
    try simp only [decide_eq_true_eq, decide_eq_false_iff_not, Bool.not_eq_true', Bool.not_eq_false', Bool.not_eq_true, Bool.not_eq_false, Bool.and_eq_true, Bool.or_eq_true, Bool.and_eq_false_iff, Bool.or_eq_false_iff, Bool.not_not, ne_eq, Int.not_lt, Int.not_le, Decidable.not_not, beq_iff_eq, bne_iff_ne] at hc0
    refine c_seq ?_
    refine c_region ?_
    refine wl (wl_val hl rfl trivial (r_move hl rfl) ?_)
    clear hl a; intro a hl
    refine wl (wl_val hl rfl trivial (r_assign hl rfl) ?_)
    clear hl a; intro a hl
    refine w_nil ?_
    have hl2 := hl.add (t := 6) (hl.nil) rfl; clear hl; have hl := hl2; clear hl2
    refine then_normal ?_
    refine wp_ret ?_
    refine then_ret ?_
    refine f_ret1 (F' := []) hl hh rfl rfl (by repeat (first | exact keeps_nil | apply keeps_cons (by repeat (first | exact find_head | apply find_tail)) (by first  | rfl) | exact keeps_self | apply keeps_mv)) ?_
    exact ⟨rfl, rfl⟩
  · intro hc0
    try simp only [decide_eq_true_eq, decide_eq_false_iff_not, Bool.not_eq_true', Bool.not_eq_false', Bool.not_eq_true, Bool.not_eq_false, Bool.and_eq_true, Bool.or_eq_true, Bool.and_eq_false_iff, Bool.or_eq_false_iff, Bool.not_not, ne_eq, Int.not_lt, Int.not_le, Decidable.not_not, beq_iff_eq, bne_iff_ne] at hc0
    exfalso; first | contradiction | omega

theorem delWA (l : List Wt) (v : Value) (E : List (Nat × Obj)) (hR : Row v l.length (fl wtc l) 18 150 E) (hc9 : l.length ≤ 1000000000) (j : Nat) (hj : j ≤ l.length) : Sp Tryz.prog 70 #[v, .int .i64 0, .int .i64 (j : Int)] E (fun v F' => Row v (l.drop j).length (fl wtc (l.drop j)) 18 150 F') := by
  obtain ⟨p, c, rfl⟩ := row_val hR
  by_cases h0 : j = 0
  · subst h0
    have hcc : l.length ≤ c := by
      rcases hR with ⟨h1, h2, _, _⟩ | ⟨b, cap, junk, h1, _, _, h4, _⟩
      · omega
      · injection h1 with _ _ e; omega
    refine spk_lift (G := E) (delW0 p l.length c hcc hc9) keeps_nil ?_
    rintro v F' ⟨rfl, rfl⟩
    exact ⟨E, [], by rw [List.drop_zero]; exact hR, by rw [List.append_nil]; exact List.Perm.refl _⟩
  · refine spk_post (delW_spec l p c E hR hc9 0 j (by omega) hj) ?_
    intro v F' h
    rw [List.take_zero, List.nil_append] at h
    exact h

theorem delWn (l : List Wt) (n : Nat) (hn : n = l.length) (p : Option Addr) (c : Nat) (E : List (Nat × Obj)) (hR : Row (.slice p l.length c) l.length (fl wtc l) 18 150 E) (hc9 : l.length ≤ 1000000000) (i j : Nat) (hij : i < j) (hj : j ≤ l.length) : Sp Tryz.prog 70 #[.slice p n c, .int .i64 (i : Int), .int .i64 (j : Int)] E (fun v F' => Row v (l.take i ++ l.drop j).length (fl wtc (l.take i ++ l.drop j)) 18 150 F') := by
  subst hn; exact delW_spec l p c E hR hc9 i j hij hj

set_option maxHeartbeats 1000000 in
theorem find_spec {f : Nat → Value} {c q : Nat} {fz : Int} {l : List Wt} {E : List (Nat × Obj)} (hS : ShR f c q fz l E) (hc : c < 4) (hw : q < 16) (bg : Nat) (hl9 : l.length ≤ 100000000) (e : Int) (hso : l.Pairwise (fun x y => x.e < y.e)) : SpK Tryz.prog 64 #[.pointer (some ⟨bg, 0 + 18 + c * 32, none⟩), .int .i64 (q : Int), .int .u64 e] (Mem ((bg, C (arrL 146 f) 94) :: E)) [] (fun v F' => ∃ i : Nat, i ≤ l.length ∧ (∀ k x, l[k]? = some x → (k < i ↔ x.e < e)) ∧ v = .tuple #[.int .i64 (i : Int), .bool (fndW l i e)] ∧ F' = []) := by
  refine f_enter (args := [.pointer (some ⟨bg, 0 + 18 + c * 32, none⟩), .int .i64 (q : Int), .int .u64 e]) Tryz.func64 rfl Tryz.ntmps64 rfl ?_
  intro w0 w a hpre hl hh
  have hmG := hpre _ _ (List.mem_cons_self ..)
  obtain ⟨p9, c9, hpc⟩ := row_val hS.row
  simp only [slotsFrom, Nat.reduceAdd] at hl
  refine c_seq ?_
  refine c_region ?_
  refine wl (wl_val hl rfl trivial (r_assign hl rfl) ?_)
  clear hl a; intro a hl
  refine wl (wl_val hl rfl trivial (r_assign hl rfl) ?_)
  clear hl a; intro a hl
  refine w_nil ?_
  have hl2 := hl.add (t := 0) (hl.add (t := 1) (hl.add (t := 2) (hl.nil) rfl) rfl) rfl; clear hl; have hl := hl2; clear hl2
  refine then_normal ?_
  refine c_seq ?_
  refine c_region ?_
  refine wl (wl_val hl rfl trivial (r_move hl rfl) ?_)
  clear hl a; intro a hl
  refine wl (wl_val hl rfl trivial (r_move hl rfl) ?_)
  clear hl a; intro a hl
  refine wl (wl_val hl rfl trivial (r_nilCheck hl rfl) ?_)
  clear hl a; intro a hl
  refine wl (wl_val hl rfl trivial (r_field hl rfl fld91_1) ?_)
  clear hl a; intro a hl
  refine wl (wl_val hl rfl trivial (r_indexA hl rfl rfl arr89 (by omega) (by omega) (by first | (simp only [Int.reduceToNat]; rfl) | exact toNat_add1 _ | exact toNat_add2 _ _ | exact toNat_emod _ _ | exact Int.toNat_natCast _ | rfl)) ?_)
  clear hl a; intro a hl
  first | refine wl (w_load hl hh rfl trivial one88 rfl (by repeat (first | exact find_head | apply find_tail)) (by first | rfl) ?_) | refine wl (w_loadR hl hh rfl trivial one88 rfl hmG (by simp) (sh_waits hc hw) ?_)
  clear hl a; intro a hl
  rw [hpc] at hl
  refine wl (wl_val hl rfl trivial (r_move hl rfl) ?_)
  clear hl a; intro a hl
  refine wl (w_call hl hh rfl trivial rfl cal87 rfl (bs_spec l hl9 p9 c9 E (hpc ▸ hS.row) e hso) (by repeat (first | exact keeps_nil | apply keeps_cons (by repeat (first | exact find_head | apply find_tail)) (by first  | rfl) | exact keeps_self | apply keeps_mv)) (mem_keep hh (fun b o m => hpre b o (.tail _ m))) ?_)
  clear hl hh a w; intro vc Fc a w hR hl hh
  obtain ⟨i, hi, hk, rfl, rfl⟩ := hR
  try simp only [List.cons_append, List.nil_append] at hh
  refine wl (wl_val hl rfl trivial (r_extract hl rfl (by simp only [List.getElem?_toArray, List.getElem?_cons_zero, List.getElem?_cons_succ]; rfl)) ?_)
  clear hl a; intro a hl
  refine wl (wl_val hl rfl trivial (r_extract hl rfl (by simp only [List.getElem?_toArray, List.getElem?_cons_zero, List.getElem?_cons_succ]; rfl)) ?_)
  clear hl a; intro a hl
  refine wl (wl_val hl rfl trivial (r_assign hl rfl) ?_)
  clear hl a; intro a hl
  refine wl (wl_val hl rfl trivial (r_assign hl rfl) ?_)
  clear hl a; intro a hl
  refine w_nil ?_
  have hl2 := hl.add (t := 6) (hl.add (t := 7) (hl.nil) rfl) rfl; clear hl; have hl := hl2; clear hl2
  refine then_normal ?_
  refine wp_ret ?_
  refine f_ret2 (F' := []) hl hh rfl rfl rfl (by repeat (first | exact keeps_nil | apply keeps_cons (by repeat (first | exact find_head | apply find_tail)) (by first  | rfl) | exact keeps_self | apply keeps_mv)) ?_
  exact ⟨i, hi, hk, rfl, rfl⟩

set_option maxHeartbeats 1000000 in
theorem adjust_F {f : Nat → Value} {c q : Nat} {fz : Int} {l : List Wt} {E : List (Nat × Obj)} (hS : ShR f c q fz l E) (hc : c < 4) (hw : q < 16) (bg : Nat) (tT : TypeId) (tf : Nat × Nat) (e : Int) (s : BitVec 16) (d : Int) (h : e < fz ∨ s = 0#16) : SpK Tryz.prog 42 #[.pointer (some ⟨bg, 0 + 18 + c * 32, none⟩), .int .i64 (q : Int), .int .u64 e, .int .u16 (mi s), .int .i64 d] (PreT tT tf ((bg, C (arrL 146 f) 94) :: E)) ((bg, C (arrL 146 f) 94) :: E) (fun v F' => v = .tuple #[] ∧ F' = (bg, C (arrL 146 f) 94) :: E) := by
  refine f_enter (args := [.pointer (some ⟨bg, 0 + 18 + c * 32, none⟩), .int .i64 (q : Int), .int .u64 e, .int .u16 (mi s), .int .i64 d]) Tryz.func42 rfl Tryz.ntmps42 rfl ?_
  intro w0 w a hpre hl hh
  simp only [slotsFrom, Nat.reduceAdd] at hl
  refine c_seq ?_
  refine c_seq ?_
  refine c_region ?_
  refine wl (wl_val hl rfl trivial (r_move hl rfl) ?_)
  clear hl a; intro a hl
  refine wl (wl_val hl rfl trivial (r_move hl rfl) ?_)
  clear hl a; intro a hl
  refine wl (wl_val hl rfl trivial (r_move hl rfl) ?_)
  clear hl a; intro a hl
  refine wl (wl_val hl rfl trivial (r_nilCheck hl rfl) ?_)
  clear hl a; intro a hl
  refine wl (wl_val hl rfl trivial (r_field hl rfl fld91_0) ?_)
  clear hl a; intro a hl
  refine wl (wl_val hl rfl trivial (r_indexA hl rfl rfl arr43 (by omega) (by omega) (by first | (simp only [Int.reduceToNat]; rfl) | exact toNat_add1 _ | exact toNat_add2 _ _ | exact toNat_emod _ _ | exact Int.toNat_natCast _ | rfl)) ?_)
  clear hl a; intro a hl
  refine wl (w_load hl hh rfl trivial one42 rfl (by repeat (first | exact find_head | apply find_tail | apply find_skip)) (by first | exact hS.cell hc hw | rfl) ?_)
  clear hl a; intro a hl
  refine wl (wl_val hl rfl trivial (r_lss hl rfl rfl) ?_)
  clear hl a; intro a hl
  refine wl (wl_val hl rfl trivial (r_move hl rfl) ?_)
  clear hl a; intro a hl
  refine sl_split (t := 23) hl rfl ?_ ?_
  · intro hg1; clear hl; intro hl
    try simp only [decide_eq_true_eq, decide_eq_false_iff_not, Bool.not_eq_true', Bool.not_eq_false', Bool.not_eq_true, Bool.not_eq_false, Bool.and_eq_true, Bool.or_eq_true, Bool.and_eq_false_iff, Bool.or_eq_false_iff, Bool.not_not, ne_eq, Int.not_lt, Int.not_le, Decidable.not_not, beq_iff_eq, bne_iff_ne] at hg1
    refine wl (wl_skip hl rfl ⟨_, _, rfl, rfl, rfl⟩ ?_)
    clear hl a; intro a hl
    refine wl (wl_skip hl rfl ⟨_, _, rfl, rfl, rfl⟩ ?_)
    clear hl a; intro a hl
    refine wl (wl_val hl rfl trivial (r_pickT hl rfl rfl) ?_)
    clear hl a; intro a hl
    refine w_nil ?_
    have hl2 := hl.add (t := 0) (hl.add (t := 1) (hl.add (t := 2) (hl.add (t := 3) (hl.add (t := 4) (hl.add (t := 26) (hl.nil) rfl) rfl) rfl) rfl) rfl) rfl; clear hl; have hl := hl2; clear hl2
    refine then_normal ?_
    refine c_condT hl rfl ?_
    refine wp_ret ?_
    refine then_ret ?_
    refine f_ret0 (F' := ((bg, C (arrL 146 f) 94) :: E)) hl hh rfl (by repeat (first | exact keeps_nil | apply keeps_cons (by repeat (first | exact find_head | apply find_tail | apply find_skip)) (by first  | rfl) | exact keeps_self | exact keeps_left | apply keeps_app | apply keeps_mv | apply keeps_skip)) ?_
    exact ⟨rfl, rfl⟩
  · intro hg1; clear hl; intro hl
    try simp only [decide_eq_true_eq, decide_eq_false_iff_not, Bool.not_eq_true', Bool.not_eq_false', Bool.not_eq_true, Bool.not_eq_false, Bool.and_eq_true, Bool.or_eq_true, Bool.and_eq_false_iff, Bool.or_eq_false_iff, Bool.not_not, ne_eq, Int.not_lt, Int.not_le, Decidable.not_not, beq_iff_eq, bne_iff_ne] at hg1
    refine wl (wl_val hl rfl ⟨_, _, rfl, rfl, rfl⟩ (r_move hl rfl) ?_)
    clear hl a; intro a hl
    refine wl (wl_val hl rfl ⟨_, _, rfl, rfl, rfl⟩ (r_eql hl rfl rfl) ?_)
    clear hl a; intro a hl
    refine wl (wl_val hl rfl trivial (r_pickF hl rfl rfl) ?_)
    clear hl a; intro a hl
    refine w_nil ?_
    have hl2 := hl.add (t := 0) (hl.add (t := 1) (hl.add (t := 2) (hl.add (t := 3) (hl.add (t := 4) (hl.add (t := 26) (hl.nil) rfl) rfl) rfl) rfl) rfl) rfl; clear hl; have hl := hl2; clear hl2
    refine then_normal ?_
    refine c_cond hl rfl ?_ ?_
    · intro hc0
      try simp only [decide_eq_true_eq, decide_eq_false_iff_not, Bool.not_eq_true', Bool.not_eq_false', Bool.not_eq_true, Bool.not_eq_false, Bool.and_eq_true, Bool.or_eq_true, Bool.and_eq_false_iff, Bool.or_eq_false_iff, Bool.not_not, ne_eq, Int.not_lt, Int.not_le, Decidable.not_not, beq_iff_eq, bne_iff_ne] at hc0
      refine wp_ret ?_
      refine then_ret ?_
      refine f_ret0 (F' := ((bg, C (arrL 146 f) 94) :: E)) hl hh rfl (by repeat (first | exact keeps_nil | apply keeps_cons (by repeat (first | exact find_head | apply find_tail | apply find_skip)) (by first  | rfl) | exact keeps_self | exact keeps_left | apply keeps_app | apply keeps_mv | apply keeps_skip)) ?_
      exact ⟨rfl, rfl⟩
    · intro hc0
      try simp only [decide_eq_true_eq, decide_eq_false_iff_not, Bool.not_eq_true', Bool.not_eq_false', Bool.not_eq_true, Bool.not_eq_false, Bool.and_eq_true, Bool.or_eq_true, Bool.and_eq_false_iff, Bool.or_eq_false_iff, Bool.not_not, ne_eq, Int.not_lt, Int.not_le, Decidable.not_not, beq_iff_eq, bne_iff_ne] at hc0
      exfalso; first | omega | (rcases h with h | h; (omega); (subst h; revert hc0; simp))

set_option maxHeartbeats 8000000 in
theorem adjust_T {f : Nat → Value} {c q : Nat} {fz : Int} {l : List Wt} {E : List (Nat × Obj)} (hS : ShR f c q fz l E) (hc : c < 4) (hw : q < 16) (bg : Nat) (tT : TypeId) (tf : Nat × Nat) (e : Int) (s : BitVec 16) (d B : Int) (hd : d = 1 ∨ d = -1) (hB : 0 ≤ B ∧ B ≤ 1000000000000) (he : fz ≤ e) (hs : s ≠ 0#16) (hok : WsOk l fz) (hnb : ∀ x, x ∈ l → ∀ h, -B ≤ x.net h ∧ x.net h ≤ B) (hl9 : l.length ≤ 100000000) : SpK Tryz.prog 42 #[.pointer (some ⟨bg, 0 + 18 + c * 32, none⟩), .int .i64 (q : Int), .int .u64 e, .int .u16 (mi s), .int .i64 d] (PreT tT tf ((bg, C (arrL 146 f) 94) :: E)) ((bg, C (arrL 146 f) 94) :: E) (fun v F' => v = .tuple #[] ∧ ∃ f' E', F' = (bg, C (arrL 146 f') 94) :: E' ∧ ShR f' c q fz (adjL e s d l) E' ∧ ∀ j, j ≠ 34 + 32 * c + q → True → f' j = f j) := by
  refine f_enter (args := [.pointer (some ⟨bg, 0 + 18 + c * 32, none⟩), .int .i64 (q : Int), .int .u64 e, .int .u16 (mi s), .int .i64 d]) Tryz.func42 rfl Tryz.ntmps42 rfl ?_
  intro w0 w a hpre hl hh
  have hms0 : ¬ mi s = 0 := fun h => hs ((mi_zero s).1 h)
  obtain ⟨ts, hts⟩ : ∃ z, z = tasksB s := ⟨_, rfl⟩
  have htp := tasks_pos hs
  have htn := tasks_nodup s
  rw [← hts] at htp htn
  simp only [slotsFrom, Nat.reduceAdd] at hl
  refine c_seq ?_
  refine c_seq ?_
  refine c_region ?_
  refine wl (wl_val hl rfl trivial (r_move hl rfl) ?_)
  clear hl a; intro a hl
  refine wl (wl_val hl rfl trivial (r_move hl rfl) ?_)
  clear hl a; intro a hl
  refine wl (wl_val hl rfl trivial (r_move hl rfl) ?_)
  clear hl a; intro a hl
  refine wl (wl_val hl rfl trivial (r_nilCheck hl rfl) ?_)
  clear hl a; intro a hl
  refine wl (wl_val hl rfl trivial (r_field hl rfl fld91_0) ?_)
  clear hl a; intro a hl
  refine wl (wl_val hl rfl trivial (r_indexA hl rfl rfl arr43 (by omega) (by omega) (by first | (simp only [Int.reduceToNat]; rfl) | exact toNat_add1 _ | exact toNat_add2 _ _ | exact toNat_emod _ _ | exact Int.toNat_natCast _ | rfl)) ?_)
  clear hl a; intro a hl
  refine wl (w_load hl hh rfl trivial one42 rfl (by repeat (first | exact find_head | apply find_tail | apply find_skip)) (by first | exact hS.cell hc hw | exact sh_waits hc hw | exact ld_net hil hth | exact ld_ms hil | exact tk_at hht | rfl) ?_)
  clear hl a; intro a hl
  refine wl (wl_val hl rfl trivial (r_lss hl rfl rfl) ?_)
  clear hl a; intro a hl
  refine wl (wl_val hl rfl trivial (r_move hl rfl) ?_)
  clear hl a; intro a hl
  refine sl_split (t := 23) hl rfl ?_ ?_
  · intro hg1; clear hl; intro hl
    try simp only [decide_eq_true_eq, decide_eq_false_iff_not, Bool.not_eq_true', Bool.not_eq_false', Bool.not_eq_true, Bool.not_eq_false, Bool.and_eq_true, Bool.or_eq_true, Bool.and_eq_false_iff, Bool.or_eq_false_iff, Bool.not_not, ne_eq, Int.not_lt, Int.not_le, Decidable.not_not, beq_iff_eq, bne_iff_ne] at hg1
    exfalso; first | contradiction | omega
  · intro hg1; clear hl; intro hl
    try simp only [decide_eq_true_eq, decide_eq_false_iff_not, Bool.not_eq_true', Bool.not_eq_false', Bool.not_eq_true, Bool.not_eq_false, Bool.and_eq_true, Bool.or_eq_true, Bool.and_eq_false_iff, Bool.or_eq_false_iff, Bool.not_not, ne_eq, Int.not_lt, Int.not_le, Decidable.not_not, beq_iff_eq, bne_iff_ne] at hg1
    refine wl (wl_val hl rfl ⟨_, _, rfl, rfl, rfl⟩ (r_move hl rfl) ?_)
    clear hl a; intro a hl
    refine wl (wl_val hl rfl ⟨_, _, rfl, rfl, rfl⟩ (r_eql hl rfl rfl) ?_)
    clear hl a; intro a hl
    refine wl (wl_val hl rfl trivial (r_pickF hl rfl rfl) ?_)
    clear hl a; intro a hl
    refine w_nil ?_
    have hl2 := hl.add (t := 0) (hl.add (t := 1) (hl.add (t := 2) (hl.add (t := 3) (hl.add (t := 4) (hl.add (t := 26) (hl.nil) rfl) rfl) rfl) rfl) rfl) rfl; clear hl; have hl := hl2; clear hl2
    refine then_normal ?_
    refine c_cond hl rfl ?_ ?_
    · intro hc0
      try simp only [decide_eq_true_eq, decide_eq_false_iff_not, Bool.not_eq_true', Bool.not_eq_false', Bool.not_eq_true, Bool.not_eq_false, Bool.and_eq_true, Bool.or_eq_true, Bool.and_eq_false_iff, Bool.or_eq_false_iff, Bool.not_not, ne_eq, Int.not_lt, Int.not_le, Decidable.not_not, beq_iff_eq, bne_iff_ne] at hc0
      exfalso; omega
    · intro hc0
      try simp only [decide_eq_true_eq, decide_eq_false_iff_not, Bool.not_eq_true', Bool.not_eq_false', Bool.not_eq_true, Bool.not_eq_false, Bool.and_eq_true, Bool.or_eq_true, Bool.and_eq_false_iff, Bool.or_eq_false_iff, Bool.not_not, ne_eq, Int.not_lt, Int.not_le, Decidable.not_not, beq_iff_eq, bne_iff_ne] at hc0
      refine wp_skip ?_
      refine then_normal ?_
      refine c_seq ?_
      refine c_region ?_
      refine wl (wl_val hl rfl trivial (r_move hl rfl) ?_)
      clear hl a; intro a hl
      refine wl (wl_val hl rfl trivial (r_move hl rfl) ?_)
      clear hl a; intro a hl
      refine wl (wl_val hl rfl trivial (r_move hl rfl) ?_)
      clear hl a; intro a hl
      refine wl (w_call hl hh rfl trivial rfl cal64 rfl (find_spec hS hc hw bg hl9 e hok.srt) (by repeat (first | exact keeps_nil | apply keeps_cons (by repeat (first | exact find_head | apply find_tail | apply find_skip)) (by first  | rfl) | exact keeps_self | exact keeps_left | apply keeps_app | apply keeps_mv | apply keeps_skip)) (memK hh keeps_self) ?_)
      clear hl hh a w; intro vc Fc a w hR hl hh
      obtain ⟨i, hi, hk, rfl, rfl⟩ := hR
      try simp only [List.cons_append, List.nil_append, List.append_assoc, List.append_nil] at hh
      refine wl (wl_val hl rfl trivial (r_move hl rfl) ?_)
      clear hl a; intro a hl
      refine wl (wl_val hl rfl trivial (r_extract hl rfl (by simp only [List.getElem?_toArray, List.getElem?_cons_zero, List.getElem?_cons_succ]; rfl)) ?_)
      clear hl a; intro a hl
      refine wl (wl_val hl rfl trivial (r_extract hl rfl (by simp only [List.getElem?_toArray, List.getElem?_cons_zero, List.getElem?_cons_succ]; rfl)) ?_)
      clear hl a; intro a hl
      refine wl (wl_val hl rfl trivial (r_assign hl rfl) ?_)
      clear hl a; intro a hl
      refine wl (wl_val hl rfl trivial (r_assign hl rfl) ?_)
      clear hl a; intro a hl
      refine w_nil ?_
      have hl2 := hl.add (t := 0) (hl.add (t := 1) (hl.add (t := 2) (hl.add (t := 3) (hl.add (t := 4) (hl.add (t := 10) (hl.add (t := 11) (hl.nil) rfl) rfl) rfl) rfl) rfl) rfl) rfl; clear hl; have hl := hl2; clear hl2
      refine then_normal ?_
      refine c_seq ?_
      refine c_seq ?_
      refine c_region ?_
      refine wl (wl_val hl rfl trivial (r_move hl rfl) ?_)
      clear hl a; intro a hl
      refine wl (wl_val hl rfl trivial (r_not hl rfl) ?_)
      clear hl a; intro a hl
      refine w_nil ?_
      have hl2 := hl.add (t := 0) (hl.add (t := 1) (hl.add (t := 2) (hl.add (t := 3) (hl.add (t := 4) (hl.add (t := 10) (hl.add (t := 35) (hl.nil) rfl) rfl) rfl) rfl) rfl) rfl) rfl; clear hl; have hl := hl2; clear hl2
      refine then_normal ?_
      refine c_cond hl rfl ?_ ?_
      · intro hc1
        try simp only [decide_eq_true_eq, decide_eq_false_iff_not, Bool.not_eq_true', Bool.not_eq_false', Bool.not_eq_true, Bool.not_eq_false, Bool.and_eq_true, Bool.or_eq_true, Bool.and_eq_false_iff, Bool.or_eq_false_iff, Bool.not_not, ne_eq, Int.not_lt, Int.not_le, Decidable.not_not, beq_iff_eq, bne_iff_ne] at hc1
        have hfnd : fndW l i e = false := by assumption
        refine c_draw [(bg, C (arrL 146 f) 94)] [15, 16] mixed hh ?_
        clear hh w; intro w hh
        have hM : Mem [(bg, C (arrL 146 f) 94)] w := (memK hh (by repeat (first | exact keeps_nil | apply keeps_cons (by repeat (first | exact find_head | apply find_tail | apply find_skip)) (by first  | rfl) | exact keeps_self | exact keeps_left | apply keeps_app | apply keeps_mv | apply keeps_skip)))
        refine d_take (i := 0) hl rfl (by kernel_rfl) (by kernel_rfl) (by kernel_rfl) (by kernel_rfl) (by kernel_rfl) rfl trivial (fun _ _ _ h => h) hM (fun w hC => r_move hl rfl) rfl ?_
        clear hl a; intro a hl
        refine d_take (i := 1) hl rfl (by kernel_rfl) (by kernel_rfl) (by kernel_rfl) (by kernel_rfl) (by kernel_rfl) rfl trivial (fun _ _ _ h => h) hM (fun w hC => r_move hl rfl) rfl ?_
        clear hl a; intro a hl
        refine d_take (i := 2) hl rfl (by kernel_rfl) (by kernel_rfl) (by kernel_rfl) (by kernel_rfl) (by kernel_rfl) rfl trivial (fun _ _ _ h => h) hM (fun w hC => r_move hl rfl) rfl ?_
        clear hl a; intro a hl
        refine d_take (i := 3) hl rfl (by kernel_rfl) (by kernel_rfl) (by kernel_rfl) (by kernel_rfl) (by kernel_rfl) rfl trivial (fun _ _ _ h => h) hM (fun w hC => r_move hl rfl) rfl ?_
        clear hl a; intro a hl
        refine d_take (i := 4) hl rfl (by kernel_rfl) (by kernel_rfl) (by kernel_rfl) (by kernel_rfl) (by kernel_rfl) rfl trivial (fun _ _ _ h => h) hM (fun w hC => r_nilCheck hl rfl) rfl ?_
        clear hl a; intro a hl
        refine d_take (i := 5) hl rfl (by kernel_rfl) (by kernel_rfl) (by kernel_rfl) (by kernel_rfl) (by kernel_rfl) rfl trivial (fun _ _ _ h => h) hM (fun w hC => r_field hl rfl fld91_1) rfl ?_
        clear hl a; intro a hl
        refine d_take (i := 6) hl rfl (by kernel_rfl) (by kernel_rfl) (by kernel_rfl) (by kernel_rfl) (by kernel_rfl) rfl trivial (fun _ _ _ h => h) hM (fun w hC => r_indexA hl rfl rfl arr89 (by omega) (by omega) (by first | (simp only [Int.reduceToNat]; rfl) | exact toNat_add1 _ | exact toNat_add2 _ _ | exact toNat_emod _ _ | exact Int.toNat_natCast _ | rfl)) rfl ?_
        clear hl a; intro a hl
        refine d_take (i := 7) hl rfl (by kernel_rfl) (by kernel_rfl) (by kernel_rfl) (by kernel_rfl) (by kernel_rfl) rfl trivial (fun _ _ _ h => h) hM (fun w hC => r_loadC hl rfl one88 hC (by repeat (first | exact find_head | apply find_tail | apply find_skip)) (by first | exact hS.cell hc hw | exact sh_waits hc hw | exact ld_net hil hth | exact ld_ms hil | exact tk_at hht | rfl)) rfl ?_
        clear hl a; intro a hl
        refine d_take (i := 8) hl rfl (by kernel_rfl) (by kernel_rfl) (by kernel_rfl) (by kernel_rfl) (by kernel_rfl) rfl trivial (fun _ _ _ h => h) hM (fun w hC => r_move hl rfl) rfl ?_
        clear hl a; intro a hl
        refine d_take (i := 9) hl rfl (by kernel_rfl) (by kernel_rfl) (by kernel_rfl) (by kernel_rfl) (by kernel_rfl) rfl trivial (fun _ _ _ h => h) hM (fun w hC => r_move hl rfl) rfl ?_
        clear hl a; intro a hl
        refine d_take (i := 10) hl rfl (by kernel_rfl) (by kernel_rfl) (by kernel_rfl) (by kernel_rfl) (by kernel_rfl) rfl trivial (fun _ _ _ h => h) hM (fun w hC => r_build hl rfl zero150 bld150 (by simp only [fillL, setL, List.getElem?_cons_zero, List.getElem?_cons_succ, Value.cells, List.take_zero, List.take_succ_cons, List.take_nil, List.drop_zero, List.drop_succ_cons, List.drop_nil, List.length_cons, List.length_nil, List.cons_append, List.nil_append, List.append_nil, Nat.zero_add, Nat.add_zero, Nat.reduceAdd, Nat.reduceBEq, Nat.reduceEqDiff, Nat.ble, BEq.rfl, Bool.and_true, Bool.and_self, cond_true, beq_self_eq_true]; rfl)) rfl ?_
        clear hl a; intro a hl
        refine d_take (i := 13) hl rfl (by kernel_rfl) (by kernel_rfl) (by kernel_rfl) (by kernel_rfl) (by kernel_rfl) rfl trivial (fun _ _ _ h => h) hM (fun w hC => r_nilCheck hl rfl) rfl ?_
        clear hl a; intro a hl
        refine d_take (i := 14) hl rfl (by kernel_rfl) (by kernel_rfl) (by kernel_rfl) (by kernel_rfl) (by kernel_rfl) rfl trivial (fun _ _ _ h => h) hM (fun w hC => r_field hl rfl fld91_1) rfl ?_
        clear hl a; intro a hl
        refine d_one (i := 11) (by kernel_rfl) rfl ?_
        try clear hM
        refine id (w_buildSlice hl hh rfl trivial app88 zero150 rfl rfl rfl rfl rfl (by simp only [fillL, arrPl, List.range_succ, List.range_zero, List.map_cons, List.map_nil, List.map_append, List.nil_append, List.replicate_succ, List.replicate_zero, List.flatten_cons, List.flatten_nil, Nat.zero_mul, Nat.mul_one, Nat.one_mul, Nat.reduceMul, setL, List.getElem?_cons_zero, List.getElem?_cons_succ, Value.cells, List.take_zero, List.take_succ_cons, List.take_nil, List.drop_zero, List.drop_succ_cons, List.drop_nil, List.length_cons, List.length_nil, List.cons_append, List.nil_append, List.append_nil, Nat.zero_add, Nat.add_zero, Nat.reduceAdd, Nat.reduceBEq, Nat.reduceEqDiff, Nat.ble, BEq.rfl, Bool.and_true, Bool.and_self, cond_true, beq_self_eq_true]; rfl) ?_)
        clear hl hh a w; intro k47 a w hl hh
        have hvb : ∀ y, y ∈ E → k47 ≠ y.1 := fun y hy => by have hn := hh.nodup; simp only [List.map_cons, List.nodup_cons, List.mem_cons, not_or] at hn; exact fun e => hn.1.2 (e ▸ List.mem_map_of_mem hy)
        rw [wtc_new] at hh
        have hM : Mem [(bg, C (arrL 146 f) 94)] w := (memK hh (by repeat (first | exact keeps_nil | apply keeps_cons (by repeat (first | exact find_head | apply find_tail | apply find_skip)) (by first  | rfl) | exact keeps_self | exact keeps_left | apply keeps_app | apply keeps_mv | apply keeps_skip)))
        refine d_step (fun _ => hM) ?_
        refine d_one (i := 12) (by kernel_rfl) rfl ?_
        try clear hM
        refine id (w_call hl hh rfl trivial rfl cal69 rfl (ins_spec l hl9 (f (34 + 32 * c + q)) E hS.row i hi (newW e) k47 hvb) (by repeat (first | exact keeps_nil | apply keeps_cons (by repeat (first | exact find_head | apply find_tail | apply find_skip)) (by first  | rfl) | exact keeps_self | exact keeps_left | apply keeps_app | apply keeps_mv | apply keeps_skip)) trivial ?_)
        clear hl hh a w; intro vc Fc a w hR hl hh
        try simp only [List.cons_append, List.nil_append, List.append_assoc, List.append_nil] at hh
        have hRd := hR
        clear hR
        generalize Fc = Ed at hh hRd
        generalize vc = vd at hl hRd
        have hM : Mem [(bg, C (arrL 146 f) 94)] w := (memK hh (by repeat (first | exact keeps_nil | apply keeps_cons (by repeat (first | exact find_head | apply find_tail | apply find_skip)) (by first  | rfl) | exact keeps_self | exact keeps_left | apply keeps_app | apply keeps_mv | apply keeps_skip)))
        refine d_step (fun _ => hM) ?_
        refine d_takeL (i := 15) hl rfl (by kernel_rfl) (by kernel_rfl) (by kernel_rfl) (by kernel_rfl) (by kernel_rfl) rfl trivial (fun _ _ _ h => h) (fun w => r_indexA hl rfl rfl arr89 (by omega) (by omega) (by first | (simp only [Int.reduceToNat]; rfl) | exact toNat_add1 _ | exact toNat_add2 _ _ | exact toNat_emod _ _ | exact Int.toNat_natCast _ | rfl)) rfl ?_
        clear hl a; intro a hl
        refine d_one (i := 16) (by kernel_rfl) rfl ?_
        try clear hM
        refine id (w_store hl hh trivial one88 rfl rfl (by repeat (first | exact find_head | apply find_tail | apply find_skip)) (by first | (simp; done) | (simp; omega) | (rw [arrL_length]; omega) | (rw [hLs]; omega)) (by first | rfl | assumption | (apply Row.one; assumption)) (by first | exact set_waits hc hw | exact st_net hil hth | exact st_ms hil | (simp only [setL, List.getElem?_cons_zero, List.getElem?_cons_succ, Value.cells, List.take_zero, List.take_succ_cons, List.take_nil, List.drop_zero, List.drop_succ_cons, List.drop_nil, List.length_cons, List.length_nil, List.cons_append, List.nil_append, List.append_nil, Nat.zero_add, Nat.add_zero, Nat.reduceAdd, Nat.reduceBEq, Nat.reduceEqDiff, Nat.ble, BEq.rfl, Bool.and_true, Bool.and_self, cond_true, beq_self_eq_true]; rfl)) ?_)
        clear hh w; intro w hh
        refine d_step (fun h => absurd h (by decide)) ?_
        refine d_done (by kernel_rfl) ?_
        try clear hM
        have hl2 := hl.add (t := 0) (hl.add (t := 1) (hl.add (t := 3) (hl.add (t := 4) (hl.add (t := 10) (hl.nil) rfl) rfl) rfl) rfl) rfl; clear hl; have hl := hl2; clear hl2
        obtain ⟨x, hA⟩ : ∃ x, AdjI l i e (l.take i ++ newW e :: l.drop i) x := ⟨_, AdjI.fresh hfnd hi⟩
        obtain ⟨l1, hl1⟩ : ∃ z, z = l.take i ++ newW e :: l.drop i := ⟨_, rfl⟩
        rw [← hl1] at hA hRd
        rw [← ins_len l (newW e) i hi, ← hl1] at hRd
        obtain ⟨f1, hf1⟩ : ∃ z, z = updV f (34 + 32 * c + q) vd := ⟨_, rfl⟩
        rw [← hf1] at hh
        have hS1 : ShR f1 c q fz l1 Ed := ⟨by rw [hf1, updV_ne _ _ (by omega)]; exact hS.flr, by rw [hf1, updV_self]; exact hRd⟩
        have hfr : ∀ j, j ≠ 34 + 32 * c + q → f1 j = f j := fun j hj => by rw [hf1, updV_ne _ _ hj]
        have hil := hA.lt
        obtain ⟨b1, cp1, junk1, hv1, hjl1, hjc1, hE1⟩ := row_blk3 hS1.row (by omega)
        subst hE1
        try simp only [List.cons_append, List.nil_append, List.append_assoc, List.append_nil] at hh
        have hxc := hA.wtc hok
        have hxb : ∀ h, -B ≤ x.net h ∧ x.net h ≤ B := by
          intro h
          rcases hA.new with h1 | h1
          · rw [h1]; simp only [newW]; omega
          · exact hnb x h1 h
        have hl1len : l1.length ≤ 100000001 := by rw [hl1, ins_len _ _ _ hi]; omega
        have hLs : ∀ y, (fl wtc (l1.set i y) ++ junk1).length = cp1 * 18 := fun y => by rw [← hjl1, List.length_append, List.length_append, fl_len wtc_len, fl_len wtc_len, List.length_set]
        refine then_normal ?_
        refine c_seq ?_
        refine c_region ?_
        refine wl (wl_val hl rfl trivial (r_move hl rfl) ?_)
        clear hl a; intro a hl
        refine wl (wl_val hl rfl trivial (r_move hl rfl) ?_)
        clear hl a; intro a hl
        refine wl (wl_val hl rfl trivial (r_nilCheck hl rfl) ?_)
        clear hl a; intro a hl
        refine wl (wl_val hl rfl trivial (r_field hl rfl fld91_1) ?_)
        clear hl a; intro a hl
        refine wl (wl_val hl rfl trivial (r_indexA hl rfl rfl arr89 (by omega) (by omega) (by first | (simp only [Int.reduceToNat]; rfl) | exact toNat_add1 _ | exact toNat_add2 _ _ | exact toNat_emod _ _ | exact Int.toNat_natCast _ | rfl)) ?_)
        clear hl a; intro a hl
        refine wl (w_load hl hh rfl trivial one88 rfl (by repeat (first | exact find_head | apply find_tail | apply find_skip)) (by first | exact hS.cell hc hw | exact sh_waits hc hw | exact ld_net hil hth | exact ld_ms hil | exact tk_at hht | rfl) ?_)
        clear hl a; intro a hl
        rw [hv1] at hl
        refine wl (wl_val hl rfl trivial (r_move hl rfl) ?_)
        clear hl a; intro a hl
        refine wl (wl_val hl rfl trivial (r_indexS hl rfl rfl slc88 (by omega) (by omega) (by first | (simp only [Int.reduceToNat]; rfl) | exact toNat_add1 _ | exact toNat_add2 _ _ | exact toNat_emod _ _ | exact Int.toNat_natCast _ | rfl)) ?_)
        clear hl a; intro a hl
        refine wl (wl_val hl rfl trivial (r_assign hl rfl) ?_)
        clear hl a; intro a hl
        refine w_nil ?_
        have hl2 := hl.add (t := 0) (hl.add (t := 1) (hl.add (t := 3) (hl.add (t := 4) (hl.add (t := 10) (hl.add (t := 12) (hl.nil) rfl) rfl) rfl) rfl) rfl) rfl; clear hl; have hl := hl2; clear hl2
        refine then_normal ?_
        refine c_seq ?_
        refine c_seq ?_
        refine c_region ?_
        refine wl (wl_val hl rfl trivial (r_move hl rfl) ?_)
        clear hl a; intro a hl
        refine wl (w_call hl hh rfl trivial rfl cal60 rfl (tasks_spec s tT tf) (by repeat (first | exact keeps_nil | apply keeps_cons (by repeat (first | exact find_head | apply find_tail | apply find_skip)) (by first  | rfl) | exact keeps_self | exact keeps_left | apply keeps_app | apply keeps_mv | apply keeps_skip)) (pt_heap hh hpre) ?_)
        clear hl hh a w; intro vc Fc a w hR hl hh
        try simp only [List.cons_append, List.nil_append, List.append_assoc, List.append_nil] at hh
        rw [← hts] at hR
        obtain ⟨kt, ct, jt, hvt, hjt, hct, hEt⟩ := row_blk3 hR htp
        subst hvt
        subst hEt
        clear hR
        try simp only [List.cons_append, List.nil_append, List.append_assoc, List.append_nil] at hh
        refine wl (wl_val hl rfl trivial (r_lenS hl rfl slc114) ?_)
        clear hl a; intro a hl
        refine wl (wl_val hl rfl trivial (r_move hl rfl) ?_)
        clear hl a; intro a hl
        refine w_nil ?_
        have hl2 := hl.add (t := 0) (hl.add (t := 1) (hl.add (t := 4) (hl.add (t := 10) (hl.add (t := 12) (hl.add (t := 61) (hl.add (t := 62) (hl.add (t := 63) (hl.nil) rfl) rfl) rfl) rfl) rfl) rfl) rfl) rfl; clear hl; have hl := hl2; clear hl2
        refine then_normal ?_
        refine wp_block ?_
        obtain ⟨KS0, hKS0, hk⟩ := (hl.add (t := 0) (hl.add (t := 1) (hl.add (t := 4) (hl.add (t := 10) (hl.add (t := 12) (hl.add (t := 61) (hl.add (t := 62) (hl.nil) rfl) rfl) rfl) rfl) rfl) rfl) rfl).name
        obtain ⟨HS0, hHS0, hh2⟩ := hh.name (keeps_cons (b := b1) (o' := C (fl wtc (l1.set i (bump d x (ts.take 0))) ++ junk1) 150) (by repeat (first | exact find_head | apply find_tail | apply find_skip)) (by first | exact adj_obj0 hA.get | rfl) (keeps_nil))
        refine c_loop (α := Nat) (fun j => ts.length - j) (fun j a w => (j ≤ ts.length) ∧ Sl 127 ([(63, .int .i64 (j : Int))] ++ KS0) a ∧ Has _ w0 ([(b1, C (fl wtc (l1.set i (bump d x (ts.take j))) ++ junk1) 150)] ++ HS0) w) 0 ⟨(by omega), hl.addE (t := 63) (hk) rfl (by first | rfl), hh2⟩ ?_
        clear hk hh2 hl hh a w
        intro j a w hI
        obtain ⟨hj, hl, hh⟩ := hI
        subst hKS0; subst hHS0
        simp only [List.cons_append, List.nil_append, List.append_nil, List.append_assoc] at hl hh
        have ht16 := tasks_len s
        rw [← hts] at ht16
        refine c_seq ?_
        refine c_region ?_
        refine wl (wl_val hl rfl trivial (r_lss hl rfl rfl) ?_)
        clear hl a; intro a hl
        refine w_nil ?_
        have hl2 := hl.add (t := 0) (hl.add (t := 1) (hl.add (t := 4) (hl.add (t := 10) (hl.add (t := 12) (hl.add (t := 61) (hl.add (t := 62) (hl.add (t := 63) (hl.add (t := 64) (hl.nil) rfl) rfl) rfl) rfl) rfl) rfl) rfl) rfl) rfl; clear hl; have hl := hl2; clear hl2
        refine then_normal ?_
        refine c_seq ?_
        refine c_cond hl rfl ?_ ?_
        · intro hc2
          try simp only [decide_eq_true_eq, decide_eq_false_iff_not, Bool.not_eq_true', Bool.not_eq_false', Bool.not_eq_true, Bool.not_eq_false, Bool.and_eq_true, Bool.or_eq_true, Bool.and_eq_false_iff, Bool.or_eq_false_iff, Bool.not_not, ne_eq, Int.not_lt, Int.not_le, Decidable.not_not, beq_iff_eq, bne_iff_ne] at hc2
          obtain ⟨h, hht⟩ : ∃ h, ts[j]? = some h := ⟨_, List.getElem?_eq_getElem (by omega)⟩
          have hth : h < 16 := tasks_lt (m := s) (by rw [← hts]; exact List.mem_of_getElem? hht)
          have hbd := bump_bd (c := d) (j := j) htn hd hxb h
          have hms := (wtC_bump (c := d) (ts.take j) x hxc (fun h hm => tasks_lt (m := s) (by rw [← hts]; exact List.mem_of_mem_take hm))).ms_rng
          generalize hyy : bump d x (ts.take j) = y at hh hbd hms
          refine wp_skip ?_
          refine then_normal ?_
          refine c_seq ?_
          refine wp_block ?_
          refine c_seq ?_
          refine c_region ?_
          refine wl (wl_val hl rfl trivial (r_indexS hl rfl rfl slc114 (by omega) (by omega) (by first | (simp only [Int.reduceToNat]; rfl) | exact toNat_add1 _ | exact toNat_add2 _ _ | exact toNat_emod _ _ | exact Int.toNat_natCast _ | rfl)) ?_)
          clear hl a; intro a hl
          refine wl (w_load hl hh rfl trivial one57 rfl (by repeat (first | exact find_head | apply find_tail | apply find_skip)) (by first | exact hS.cell hc hw | exact sh_waits hc hw | exact ld_net hil hth | exact ld_ms hil | exact tk_at hht | rfl) ?_)
          clear hl a; intro a hl
          refine wl (wl_val hl rfl trivial (r_assign hl rfl) ?_)
          clear hl a; intro a hl
          refine w_nil ?_
          have hl2 := hl.add (t := 0) (hl.add (t := 1) (hl.add (t := 4) (hl.add (t := 10) (hl.add (t := 12) (hl.add (t := 14) (hl.add (t := 61) (hl.add (t := 62) (hl.add (t := 63) (hl.nil) rfl) rfl) rfl) rfl) rfl) rfl) rfl) rfl) rfl; clear hl; have hl := hl2; clear hl2
          refine then_normal ?_
          refine c_seq ?_
          refine c_seq ?_
          refine c_region ?_
          refine wl (wl_val hl rfl trivial (r_move hl rfl) ?_)
          clear hl a; intro a hl
          refine wl (wl_val hl rfl trivial (r_move hl rfl) ?_)
          clear hl a; intro a hl
          refine wl (wl_val hl rfl trivial (r_nilCheck hl rfl) ?_)
          clear hl a; intro a hl
          refine wl (wl_val hl rfl trivial (r_field hl rfl fld150_1) ?_)
          clear hl a; intro a hl
          refine wl (wl_val hl rfl trivial (r_indexA hl rfl rfl arr106 (by omega) (by omega) (by first | (simp only [Int.reduceToNat]; rfl) | exact toNat_add1 _ | exact toNat_add2 _ _ | exact toNat_emod _ _ | exact Int.toNat_natCast _ | rfl)) ?_)
          clear hl a; intro a hl
          refine wl (w_load hl hh rfl trivial one3 rfl (by repeat (first | exact find_head | apply find_tail | apply find_skip)) (by first | exact hS.cell hc hw | exact sh_waits hc hw | exact ld_net hil hth | exact ld_ms hil | exact tk_at hht | rfl) ?_)
          clear hl a; intro a hl
          refine wl (wl_val hl rfl trivial (r_eql hl rfl rfl) ?_)
          clear hl a; intro a hl
          refine w_nil ?_
          have hl2 := hl.add (t := 0) (hl.add (t := 1) (hl.add (t := 4) (hl.add (t := 10) (hl.add (t := 12) (hl.add (t := 14) (hl.add (t := 61) (hl.add (t := 62) (hl.add (t := 63) (hl.add (t := 73) (hl.nil) rfl) rfl) rfl) rfl) rfl) rfl) rfl) rfl) rfl) rfl; clear hl; have hl := hl2; clear hl2
          refine then_normal ?_
          refine c_cond hl rfl ?_ ?_
          · intro hc3
            try simp only [decide_eq_true_eq, decide_eq_false_iff_not, Bool.not_eq_true', Bool.not_eq_false', Bool.not_eq_true, Bool.not_eq_false, Bool.and_eq_true, Bool.or_eq_true, Bool.and_eq_false_iff, Bool.or_eq_false_iff, Bool.not_not, ne_eq, Int.not_lt, Int.not_le, Decidable.not_not, beq_iff_eq, bne_iff_ne] at hc3
            refine c_region ?_
            refine wl (wl_val hl rfl trivial (r_move hl rfl) ?_)
            clear hl a; intro a hl
            refine wl (wl_val hl rfl trivial (r_nilCheck hl rfl) ?_)
            clear hl a; intro a hl
            refine wl (wl_val hl rfl trivial (r_field hl rfl fld150_2) ?_)
            clear hl a; intro a hl
            refine wl (w_load hl hh rfl trivial one3 rfl (by repeat (first | exact find_head | apply find_tail | apply find_skip)) (by first | exact hS.cell hc hw | exact sh_waits hc hw | exact ld_net hil hth | exact ld_ms hil | exact tk_at hht | rfl) ?_)
            clear hl a; intro a hl
            first | refine wl (wl_val hl rfl trivial (r_add hl rfl rfl (by simp only [Fits]; omega)) ?_) | refine wl (wl_val hl rfl trivial (r_addW hl rfl rfl) ?_)
            clear hl a; intro a hl
            refine wl (wl_val hl rfl trivial (r_nilCheck hl rfl) ?_)
            clear hl a; intro a hl
            refine wl (wl_val hl rfl trivial (r_field hl rfl fld150_2) ?_)
            clear hl a; intro a hl
            refine wl (w_store hl hh trivial one3 rfl rfl (by repeat (first | exact find_head | apply find_tail | apply find_skip)) (by first | (simp; done) | (simp; omega) | (rw [arrL_length]; omega) | (rw [hLs]; omega)) (by first | rfl | assumption | (apply Row.one; assumption)) (by first | exact set_waits hc hw | exact st_net hil hth | exact st_ms hil | (simp only [setL, List.getElem?_cons_zero, List.getElem?_cons_succ, Value.cells, List.take_zero, List.take_succ_cons, List.take_nil, List.drop_zero, List.drop_succ_cons, List.drop_nil, List.length_cons, List.length_nil, List.cons_append, List.nil_append, List.append_nil, Nat.zero_add, Nat.add_zero, Nat.reduceAdd, Nat.reduceBEq, Nat.reduceEqDiff, Nat.ble, BEq.rfl, Bool.and_true, Bool.and_self, cond_true, beq_self_eq_true]; rfl)) ?_)
            clear hh w; intro w hh
            refine w_nil ?_
            have hl2 := hl.add (t := 0) (hl.add (t := 1) (hl.add (t := 4) (hl.add (t := 10) (hl.add (t := 12) (hl.add (t := 14) (hl.add (t := 61) (hl.add (t := 62) (hl.add (t := 63) (hl.nil) rfl) rfl) rfl) rfl) rfl) rfl) rfl) rfl) rfl; clear hl; have hl := hl2; clear hl2
            obtain ⟨y1, hy1⟩ : ∃ z, z = setMs y (y.ms + 1) := ⟨_, rfl⟩
            rw [← hy1] at hh
            have hn1 : y1.net = y.net := by rw [hy1]; rfl
            have hm1 : y1.ms = y.ms + 1 := by rw [hy1]; rfl
            refine then_normal ?_
            refine c_seq ?_
            refine c_draw [(b1, C (fl wtc (l1.set i y1) ++ junk1) 150)] [10, 11] mixed hh ?_
            clear hh w; intro w hh
            have hM : Mem [(b1, C (fl wtc (l1.set i y1) ++ junk1) 150)] w := (memK hh (by repeat (first | exact keeps_nil | apply keeps_cons (by repeat (first | exact find_head | apply find_tail | apply find_skip)) (by first  | rfl) | exact keeps_self | exact keeps_left | apply keeps_app | apply keeps_mv | apply keeps_skip)))
            refine d_take (i := 0) hl rfl (by kernel_rfl) (by kernel_rfl) (by kernel_rfl) (by kernel_rfl) (by kernel_rfl) rfl trivial (fun _ _ _ h => h) hM (fun w hC => r_move hl rfl) rfl ?_
            clear hl a; intro a hl
            refine d_take (i := 1) hl rfl (by kernel_rfl) (by kernel_rfl) (by kernel_rfl) (by kernel_rfl) (by kernel_rfl) rfl trivial (fun _ _ _ h => h) hM (fun w hC => r_move hl rfl) rfl ?_
            clear hl a; intro a hl
            refine d_take (i := 2) hl rfl (by kernel_rfl) (by kernel_rfl) (by kernel_rfl) (by kernel_rfl) (by kernel_rfl) rfl trivial (fun _ _ _ h => h) hM (fun w hC => r_nilCheck hl rfl) rfl ?_
            clear hl a; intro a hl
            refine d_take (i := 3) hl rfl (by kernel_rfl) (by kernel_rfl) (by kernel_rfl) (by kernel_rfl) (by kernel_rfl) rfl trivial (fun _ _ _ h => h) hM (fun w hC => r_field hl rfl fld150_1) rfl ?_
            clear hl a; intro a hl
            refine d_take (i := 4) hl rfl (by kernel_rfl) (by kernel_rfl) (by kernel_rfl) (by kernel_rfl) (by kernel_rfl) rfl trivial (fun _ _ _ h => h) hM (fun w hC => r_indexA hl rfl rfl arr106 (by omega) (by omega) (by first | (simp only [Int.reduceToNat]; rfl) | exact toNat_add1 _ | exact toNat_add2 _ _ | exact toNat_emod _ _ | exact Int.toNat_natCast _ | rfl)) rfl ?_
            clear hl a; intro a hl
            refine d_take (i := 5) hl rfl (by kernel_rfl) (by kernel_rfl) (by kernel_rfl) (by kernel_rfl) (by kernel_rfl) rfl trivial (fun _ _ _ h => h) hM (fun w hC => r_loadC hl rfl one3 hC (by repeat (first | exact find_head | apply find_tail | apply find_skip)) (by first | exact hS.cell hc hw | exact sh_waits hc hw | exact ld_net hil hth | exact ld_ms hil | exact tk_at hht | rfl)) rfl ?_
            clear hl a; intro a hl
            try simp only [setNet_ms, setNet_self, hn1, hm1] at hl
            refine d_take (i := 6) hl rfl (by kernel_rfl) (by kernel_rfl) (by kernel_rfl) (by kernel_rfl) (by kernel_rfl) rfl trivial (fun _ _ _ h => h) hM (fun w hC => r_move hl rfl) rfl ?_
            clear hl a; intro a hl
            first | refine d_take (i := 7) hl rfl (by kernel_rfl) (by kernel_rfl) (by kernel_rfl) (by kernel_rfl) (by kernel_rfl) rfl trivial (fun _ _ _ h => h) hM (fun w hC => r_add hl rfl rfl (by simp only [Fits]; omega)) rfl ?_ | refine d_take (i := 7) hl rfl (by kernel_rfl) (by kernel_rfl) (by kernel_rfl) (by kernel_rfl) (by kernel_rfl) rfl trivial (fun _ _ _ h => h) hM (fun w hC => r_addW hl rfl rfl) rfl ?_
            clear hl a; intro a hl
            refine d_take (i := 8) hl rfl (by kernel_rfl) (by kernel_rfl) (by kernel_rfl) (by kernel_rfl) (by kernel_rfl) rfl trivial (fun _ _ _ h => h) hM (fun w hC => r_nilCheck hl rfl) rfl ?_
            clear hl a; intro a hl
            refine d_take (i := 9) hl rfl (by kernel_rfl) (by kernel_rfl) (by kernel_rfl) (by kernel_rfl) (by kernel_rfl) rfl trivial (fun _ _ _ h => h) hM (fun w hC => r_field hl rfl fld150_1) rfl ?_
            clear hl a; intro a hl
            refine d_takeL (i := 10) hl rfl (by kernel_rfl) (by kernel_rfl) (by kernel_rfl) (by kernel_rfl) (by kernel_rfl) rfl trivial (fun _ _ _ h => h) (fun w => r_indexA hl rfl rfl arr106 (by omega) (by omega) (by first | (simp only [Int.reduceToNat]; rfl) | exact toNat_add1 _ | exact toNat_add2 _ _ | exact toNat_emod _ _ | exact Int.toNat_natCast _ | rfl)) rfl ?_
            clear hl a; intro a hl
            refine d_one (i := 11) (by kernel_rfl) rfl ?_
            try clear hM
            refine id (w_store hl hh trivial one3 rfl rfl (by repeat (first | exact find_head | apply find_tail | apply find_skip)) (by first | (simp; done) | (simp; omega) | (rw [arrL_length]; omega) | (rw [hLs]; omega)) (by first | rfl | assumption | (apply Row.one; assumption)) (by first | exact set_waits hc hw | exact st_net hil hth | exact st_ms hil | (simp only [setL, List.getElem?_cons_zero, List.getElem?_cons_succ, Value.cells, List.take_zero, List.take_succ_cons, List.take_nil, List.drop_zero, List.drop_succ_cons, List.drop_nil, List.length_cons, List.length_nil, List.cons_append, List.nil_append, List.append_nil, Nat.zero_add, Nat.add_zero, Nat.reduceAdd, Nat.reduceBEq, Nat.reduceEqDiff, Nat.ble, BEq.rfl, Bool.and_true, Bool.and_self, cond_true, beq_self_eq_true]; rfl)) ?_)
            clear hh w; intro w hh
            refine d_step (fun h => absurd h (by decide)) ?_
            refine d_done (by kernel_rfl) ?_
            try clear hM
            have hl2 := hl.add (t := 0) (hl.add (t := 1) (hl.add (t := 4) (hl.add (t := 10) (hl.add (t := 12) (hl.add (t := 14) (hl.add (t := 61) (hl.add (t := 62) (hl.add (t := 63) (hl.nil) rfl) rfl) rfl) rfl) rfl) rfl) rfl) rfl) rfl; clear hl; have hl := hl2; clear hl2
            refine then_normal ?_
            refine c_seq ?_
            refine c_region ?_
            refine wl (wl_val hl rfl trivial (r_move hl rfl) ?_)
            clear hl a; intro a hl
            refine wl (wl_val hl rfl trivial (r_move hl rfl) ?_)
            clear hl a; intro a hl
            refine wl (wl_val hl rfl trivial (r_nilCheck hl rfl) ?_)
            clear hl a; intro a hl
            refine wl (wl_val hl rfl trivial (r_field hl rfl fld150_1) ?_)
            clear hl a; intro a hl
            refine wl (wl_val hl rfl trivial (r_indexA hl rfl rfl arr106 (by omega) (by omega) (by first | (simp only [Int.reduceToNat]; rfl) | exact toNat_add1 _ | exact toNat_add2 _ _ | exact toNat_emod _ _ | exact Int.toNat_natCast _ | rfl)) ?_)
            clear hl a; intro a hl
            refine wl (w_load hl hh rfl trivial one3 rfl (by repeat (first | exact find_head | apply find_tail | apply find_skip)) (by first | exact hS.cell hc hw | exact sh_waits hc hw | exact ld_net hil hth | exact ld_ms hil | exact tk_at hht | rfl) ?_)
            clear hl a; intro a hl
            try simp only [setNet_ms, setNet_self, hn1, hm1] at hl
            refine wl (wl_val hl rfl trivial (r_eql hl rfl rfl) ?_)
            clear hl a; intro a hl
            refine w_nil ?_
            have hl2 := hl.add (t := 0) (hl.add (t := 1) (hl.add (t := 4) (hl.add (t := 10) (hl.add (t := 12) (hl.add (t := 61) (hl.add (t := 62) (hl.add (t := 63) (hl.add (t := 98) (hl.nil) rfl) rfl) rfl) rfl) rfl) rfl) rfl) rfl) rfl; clear hl; have hl := hl2; clear hl2
            refine then_normal ?_
            refine c_cond hl rfl ?_ ?_
            · intro hc4
              try simp only [decide_eq_true_eq, decide_eq_false_iff_not, Bool.not_eq_true', Bool.not_eq_false', Bool.not_eq_true, Bool.not_eq_false, Bool.and_eq_true, Bool.or_eq_true, Bool.and_eq_false_iff, Bool.or_eq_false_iff, Bool.not_not, ne_eq, Int.not_lt, Int.not_le, Decidable.not_not, beq_iff_eq, bne_iff_ne] at hc4
              refine c_region ?_
              refine wl (wl_val hl rfl trivial (r_move hl rfl) ?_)
              clear hl a; intro a hl
              refine wl (wl_val hl rfl trivial (r_nilCheck hl rfl) ?_)
              clear hl a; intro a hl
              refine wl (wl_val hl rfl trivial (r_field hl rfl fld150_2) ?_)
              clear hl a; intro a hl
              refine wl (w_load hl hh rfl trivial one3 rfl (by repeat (first | exact find_head | apply find_tail | apply find_skip)) (by first | exact hS.cell hc hw | exact sh_waits hc hw | exact ld_net hil hth | exact ld_ms hil | exact tk_at hht | rfl) ?_)
              clear hl a; intro a hl
              try simp only [setNet_ms, setNet_self, hn1, hm1] at hl
              first | refine wl (wl_val hl rfl trivial (r_sub hl rfl rfl (by simp only [Fits]; omega)) ?_) | refine wl (wl_val hl rfl trivial (r_subW hl rfl rfl) ?_)
              clear hl a; intro a hl
              refine wl (wl_val hl rfl trivial (r_nilCheck hl rfl) ?_)
              clear hl a; intro a hl
              refine wl (wl_val hl rfl trivial (r_field hl rfl fld150_2) ?_)
              clear hl a; intro a hl
              refine wl (w_store hl hh trivial one3 rfl rfl (by repeat (first | exact find_head | apply find_tail | apply find_skip)) (by first | (simp; done) | (simp; omega) | (rw [arrL_length]; omega) | (rw [hLs]; omega)) (by first | rfl | assumption | (apply Row.one; assumption)) (by first | exact set_waits hc hw | exact st_net hil hth | exact st_ms hil | (simp only [setL, List.getElem?_cons_zero, List.getElem?_cons_succ, Value.cells, List.take_zero, List.take_succ_cons, List.take_nil, List.drop_zero, List.drop_succ_cons, List.drop_nil, List.length_cons, List.length_nil, List.cons_append, List.nil_append, List.append_nil, Nat.zero_add, Nat.add_zero, Nat.reduceAdd, Nat.reduceBEq, Nat.reduceEqDiff, Nat.ble, BEq.rfl, Bool.and_true, Bool.and_self, cond_true, beq_self_eq_true]; rfl)) ?_)
              clear hh w; intro w hh
              refine w_nil ?_
              have hl2 := hl.add (t := 0) (hl.add (t := 1) (hl.add (t := 4) (hl.add (t := 10) (hl.add (t := 12) (hl.add (t := 61) (hl.add (t := 62) (hl.add (t := 63) (hl.nil) rfl) rfl) rfl) rfl) rfl) rfl) rfl) rfl; clear hl; have hl := hl2; clear hl2
              refine blk_normal ?_
              refine then_normal ?_
              refine c_region ?_
              first | refine wl (wl_val hl rfl trivial (r_add hl rfl rfl (by simp only [Fits]; omega)) ?_) | refine wl (wl_val hl rfl trivial (r_addW hl rfl rfl) ?_)
              clear hl a; intro a hl
              refine wl (wl_val hl rfl trivial (r_move hl rfl) ?_)
              clear hl a; intro a hl
              refine w_nil ?_
              have hl2 := hl.add (t := 0) (hl.add (t := 1) (hl.add (t := 4) (hl.add (t := 10) (hl.add (t := 12) (hl.add (t := 61) (hl.add (t := 62) (hl.add (t := 63) (hl.nil) rfl) rfl) rfl) rfl) rfl) rfl) rfl) rfl; clear hl; have hl := hl2; clear hl2
              refine then_normal ?_
              subst hy1
              refine ⟨(j + 1), (by omega), (by omega), hl.addE (t := 63) (hl.addE (t := 0) (hl.addE (t := 1) (hl.addE (t := 4) (hl.addE (t := 10) (hl.addE (t := 12) (hl.addE (t := 61) (hl.addE (t := 62) (hl.nil) rfl (by first | rfl | (congr 1; omega))) rfl (by first | rfl | (congr 1; omega))) rfl (by first | rfl | (congr 1; omega))) rfl (by first | rfl | (congr 1; omega))) rfl (by first | rfl | (congr 1; omega))) rfl (by first | rfl | (congr 1; omega))) rfl (by first | rfl | (congr 1; omega))) rfl (by first | rfl | (congr 1; omega)), hh.keep (by repeat (first | exact keeps_nil | apply keeps_cons (by repeat (first | exact find_head | apply find_tail | apply find_skip)) (by first  | exact adj_oTT hht hyy (by assumption) (by assumption) | exact adj_oTF hht hyy (by assumption) (by assumption) | exact adj_oFT hht hyy (by assumption) (by assumption) | exact adj_oFF hht hyy (by assumption) (by assumption) | rfl) | exact keeps_self | exact keeps_left | apply keeps_app | apply keeps_mv | apply keeps_skip))⟩
            · intro hc4
              try simp only [decide_eq_true_eq, decide_eq_false_iff_not, Bool.not_eq_true', Bool.not_eq_false', Bool.not_eq_true, Bool.not_eq_false, Bool.and_eq_true, Bool.or_eq_true, Bool.and_eq_false_iff, Bool.or_eq_false_iff, Bool.not_not, ne_eq, Int.not_lt, Int.not_le, Decidable.not_not, beq_iff_eq, bne_iff_ne] at hc4
              refine wp_skip ?_
              refine blk_normal ?_
              refine then_normal ?_
              refine c_region ?_
              first | refine wl (wl_val hl rfl trivial (r_add hl rfl rfl (by simp only [Fits]; omega)) ?_) | refine wl (wl_val hl rfl trivial (r_addW hl rfl rfl) ?_)
              clear hl a; intro a hl
              refine wl (wl_val hl rfl trivial (r_move hl rfl) ?_)
              clear hl a; intro a hl
              refine w_nil ?_
              have hl2 := hl.add (t := 0) (hl.add (t := 1) (hl.add (t := 4) (hl.add (t := 10) (hl.add (t := 12) (hl.add (t := 61) (hl.add (t := 62) (hl.add (t := 63) (hl.nil) rfl) rfl) rfl) rfl) rfl) rfl) rfl) rfl; clear hl; have hl := hl2; clear hl2
              refine then_normal ?_
              subst hy1
              refine ⟨(j + 1), (by omega), (by omega), hl.addE (t := 63) (hl.addE (t := 0) (hl.addE (t := 1) (hl.addE (t := 4) (hl.addE (t := 10) (hl.addE (t := 12) (hl.addE (t := 61) (hl.addE (t := 62) (hl.nil) rfl (by first | rfl | (congr 1; omega))) rfl (by first | rfl | (congr 1; omega))) rfl (by first | rfl | (congr 1; omega))) rfl (by first | rfl | (congr 1; omega))) rfl (by first | rfl | (congr 1; omega))) rfl (by first | rfl | (congr 1; omega))) rfl (by first | rfl | (congr 1; omega))) rfl (by first | rfl | (congr 1; omega)), hh.keep (by repeat (first | exact keeps_nil | apply keeps_cons (by repeat (first | exact find_head | apply find_tail | apply find_skip)) (by first  | exact adj_oTT hht hyy (by assumption) (by assumption) | exact adj_oTF hht hyy (by assumption) (by assumption) | exact adj_oFT hht hyy (by assumption) (by assumption) | exact adj_oFF hht hyy (by assumption) (by assumption) | rfl) | exact keeps_self | exact keeps_left | apply keeps_app | apply keeps_mv | apply keeps_skip))⟩
          · intro hc3
            try simp only [decide_eq_true_eq, decide_eq_false_iff_not, Bool.not_eq_true', Bool.not_eq_false', Bool.not_eq_true, Bool.not_eq_false, Bool.and_eq_true, Bool.or_eq_true, Bool.and_eq_false_iff, Bool.or_eq_false_iff, Bool.not_not, ne_eq, Int.not_lt, Int.not_le, Decidable.not_not, beq_iff_eq, bne_iff_ne] at hc3
            obtain ⟨y1, hy1⟩ : ∃ z, z = y := ⟨_, rfl⟩
            rw [← hy1] at hh
            have hn1 : y1.net = y.net := by rw [hy1]
            have hm1 : y1.ms = y.ms := by rw [hy1]
            refine wp_skip ?_
            refine then_normal ?_
            refine c_seq ?_
            refine c_draw [(b1, C (fl wtc (l1.set i y1) ++ junk1) 150)] [10, 11] mixed hh ?_
            clear hh w; intro w hh
            have hM : Mem [(b1, C (fl wtc (l1.set i y1) ++ junk1) 150)] w := (memK hh (by repeat (first | exact keeps_nil | apply keeps_cons (by repeat (first | exact find_head | apply find_tail | apply find_skip)) (by first  | rfl) | exact keeps_self | exact keeps_left | apply keeps_app | apply keeps_mv | apply keeps_skip)))
            refine d_take (i := 0) hl rfl (by kernel_rfl) (by kernel_rfl) (by kernel_rfl) (by kernel_rfl) (by kernel_rfl) rfl trivial (fun _ _ _ h => h) hM (fun w hC => r_move hl rfl) rfl ?_
            clear hl a; intro a hl
            refine d_take (i := 1) hl rfl (by kernel_rfl) (by kernel_rfl) (by kernel_rfl) (by kernel_rfl) (by kernel_rfl) rfl trivial (fun _ _ _ h => h) hM (fun w hC => r_move hl rfl) rfl ?_
            clear hl a; intro a hl
            refine d_take (i := 2) hl rfl (by kernel_rfl) (by kernel_rfl) (by kernel_rfl) (by kernel_rfl) (by kernel_rfl) rfl trivial (fun _ _ _ h => h) hM (fun w hC => r_nilCheck hl rfl) rfl ?_
            clear hl a; intro a hl
            refine d_take (i := 3) hl rfl (by kernel_rfl) (by kernel_rfl) (by kernel_rfl) (by kernel_rfl) (by kernel_rfl) rfl trivial (fun _ _ _ h => h) hM (fun w hC => r_field hl rfl fld150_1) rfl ?_
            clear hl a; intro a hl
            refine d_take (i := 4) hl rfl (by kernel_rfl) (by kernel_rfl) (by kernel_rfl) (by kernel_rfl) (by kernel_rfl) rfl trivial (fun _ _ _ h => h) hM (fun w hC => r_indexA hl rfl rfl arr106 (by omega) (by omega) (by first | (simp only [Int.reduceToNat]; rfl) | exact toNat_add1 _ | exact toNat_add2 _ _ | exact toNat_emod _ _ | exact Int.toNat_natCast _ | rfl)) rfl ?_
            clear hl a; intro a hl
            refine d_take (i := 5) hl rfl (by kernel_rfl) (by kernel_rfl) (by kernel_rfl) (by kernel_rfl) (by kernel_rfl) rfl trivial (fun _ _ _ h => h) hM (fun w hC => r_loadC hl rfl one3 hC (by repeat (first | exact find_head | apply find_tail | apply find_skip)) (by first | exact hS.cell hc hw | exact sh_waits hc hw | exact ld_net hil hth | exact ld_ms hil | exact tk_at hht | rfl)) rfl ?_
            clear hl a; intro a hl
            try simp only [setNet_ms, setNet_self, hn1, hm1] at hl
            refine d_take (i := 6) hl rfl (by kernel_rfl) (by kernel_rfl) (by kernel_rfl) (by kernel_rfl) (by kernel_rfl) rfl trivial (fun _ _ _ h => h) hM (fun w hC => r_move hl rfl) rfl ?_
            clear hl a; intro a hl
            first | refine d_take (i := 7) hl rfl (by kernel_rfl) (by kernel_rfl) (by kernel_rfl) (by kernel_rfl) (by kernel_rfl) rfl trivial (fun _ _ _ h => h) hM (fun w hC => r_add hl rfl rfl (by simp only [Fits]; omega)) rfl ?_ | refine d_take (i := 7) hl rfl (by kernel_rfl) (by kernel_rfl) (by kernel_rfl) (by kernel_rfl) (by kernel_rfl) rfl trivial (fun _ _ _ h => h) hM (fun w hC => r_addW hl rfl rfl) rfl ?_
            clear hl a; intro a hl
            refine d_take (i := 8) hl rfl (by kernel_rfl) (by kernel_rfl) (by kernel_rfl) (by kernel_rfl) (by kernel_rfl) rfl trivial (fun _ _ _ h => h) hM (fun w hC => r_nilCheck hl rfl) rfl ?_
            clear hl a; intro a hl
            refine d_take (i := 9) hl rfl (by kernel_rfl) (by kernel_rfl) (by kernel_rfl) (by kernel_rfl) (by kernel_rfl) rfl trivial (fun _ _ _ h => h) hM (fun w hC => r_field hl rfl fld150_1) rfl ?_
            clear hl a; intro a hl
            refine d_takeL (i := 10) hl rfl (by kernel_rfl) (by kernel_rfl) (by kernel_rfl) (by kernel_rfl) (by kernel_rfl) rfl trivial (fun _ _ _ h => h) (fun w => r_indexA hl rfl rfl arr106 (by omega) (by omega) (by first | (simp only [Int.reduceToNat]; rfl) | exact toNat_add1 _ | exact toNat_add2 _ _ | exact toNat_emod _ _ | exact Int.toNat_natCast _ | rfl)) rfl ?_
            clear hl a; intro a hl
            refine d_one (i := 11) (by kernel_rfl) rfl ?_
            try clear hM
            refine id (w_store hl hh trivial one3 rfl rfl (by repeat (first | exact find_head | apply find_tail | apply find_skip)) (by first | (simp; done) | (simp; omega) | (rw [arrL_length]; omega) | (rw [hLs]; omega)) (by first | rfl | assumption | (apply Row.one; assumption)) (by first | exact set_waits hc hw | exact st_net hil hth | exact st_ms hil | (simp only [setL, List.getElem?_cons_zero, List.getElem?_cons_succ, Value.cells, List.take_zero, List.take_succ_cons, List.take_nil, List.drop_zero, List.drop_succ_cons, List.drop_nil, List.length_cons, List.length_nil, List.cons_append, List.nil_append, List.append_nil, Nat.zero_add, Nat.add_zero, Nat.reduceAdd, Nat.reduceBEq, Nat.reduceEqDiff, Nat.ble, BEq.rfl, Bool.and_true, Bool.and_self, cond_true, beq_self_eq_true]; rfl)) ?_)
            clear hh w; intro w hh
            refine d_step (fun h => absurd h (by decide)) ?_
            refine d_done (by kernel_rfl) ?_
            try clear hM
            have hl2 := hl.add (t := 0) (hl.add (t := 1) (hl.add (t := 4) (hl.add (t := 10) (hl.add (t := 12) (hl.add (t := 14) (hl.add (t := 61) (hl.add (t := 62) (hl.add (t := 63) (hl.nil) rfl) rfl) rfl) rfl) rfl) rfl) rfl) rfl) rfl; clear hl; have hl := hl2; clear hl2
            refine then_normal ?_
            refine c_seq ?_
            refine c_region ?_
            refine wl (wl_val hl rfl trivial (r_move hl rfl) ?_)
            clear hl a; intro a hl
            refine wl (wl_val hl rfl trivial (r_move hl rfl) ?_)
            clear hl a; intro a hl
            refine wl (wl_val hl rfl trivial (r_nilCheck hl rfl) ?_)
            clear hl a; intro a hl
            refine wl (wl_val hl rfl trivial (r_field hl rfl fld150_1) ?_)
            clear hl a; intro a hl
            refine wl (wl_val hl rfl trivial (r_indexA hl rfl rfl arr106 (by omega) (by omega) (by first | (simp only [Int.reduceToNat]; rfl) | exact toNat_add1 _ | exact toNat_add2 _ _ | exact toNat_emod _ _ | exact Int.toNat_natCast _ | rfl)) ?_)
            clear hl a; intro a hl
            refine wl (w_load hl hh rfl trivial one3 rfl (by repeat (first | exact find_head | apply find_tail | apply find_skip)) (by first | exact hS.cell hc hw | exact sh_waits hc hw | exact ld_net hil hth | exact ld_ms hil | exact tk_at hht | rfl) ?_)
            clear hl a; intro a hl
            try simp only [setNet_ms, setNet_self, hn1, hm1] at hl
            refine wl (wl_val hl rfl trivial (r_eql hl rfl rfl) ?_)
            clear hl a; intro a hl
            refine w_nil ?_
            have hl2 := hl.add (t := 0) (hl.add (t := 1) (hl.add (t := 4) (hl.add (t := 10) (hl.add (t := 12) (hl.add (t := 61) (hl.add (t := 62) (hl.add (t := 63) (hl.add (t := 98) (hl.nil) rfl) rfl) rfl) rfl) rfl) rfl) rfl) rfl) rfl; clear hl; have hl := hl2; clear hl2
            refine then_normal ?_
            refine c_cond hl rfl ?_ ?_
            · intro hc4
              try simp only [decide_eq_true_eq, decide_eq_false_iff_not, Bool.not_eq_true', Bool.not_eq_false', Bool.not_eq_true, Bool.not_eq_false, Bool.and_eq_true, Bool.or_eq_true, Bool.and_eq_false_iff, Bool.or_eq_false_iff, Bool.not_not, ne_eq, Int.not_lt, Int.not_le, Decidable.not_not, beq_iff_eq, bne_iff_ne] at hc4
              refine c_region ?_
              refine wl (wl_val hl rfl trivial (r_move hl rfl) ?_)
              clear hl a; intro a hl
              refine wl (wl_val hl rfl trivial (r_nilCheck hl rfl) ?_)
              clear hl a; intro a hl
              refine wl (wl_val hl rfl trivial (r_field hl rfl fld150_2) ?_)
              clear hl a; intro a hl
              refine wl (w_load hl hh rfl trivial one3 rfl (by repeat (first | exact find_head | apply find_tail | apply find_skip)) (by first | exact hS.cell hc hw | exact sh_waits hc hw | exact ld_net hil hth | exact ld_ms hil | exact tk_at hht | rfl) ?_)
              clear hl a; intro a hl
              try simp only [setNet_ms, setNet_self, hn1, hm1] at hl
              first | refine wl (wl_val hl rfl trivial (r_sub hl rfl rfl (by simp only [Fits]; omega)) ?_) | refine wl (wl_val hl rfl trivial (r_subW hl rfl rfl) ?_)
              clear hl a; intro a hl
              refine wl (wl_val hl rfl trivial (r_nilCheck hl rfl) ?_)
              clear hl a; intro a hl
              refine wl (wl_val hl rfl trivial (r_field hl rfl fld150_2) ?_)
              clear hl a; intro a hl
              refine wl (w_store hl hh trivial one3 rfl rfl (by repeat (first | exact find_head | apply find_tail | apply find_skip)) (by first | (simp; done) | (simp; omega) | (rw [arrL_length]; omega) | (rw [hLs]; omega)) (by first | rfl | assumption | (apply Row.one; assumption)) (by first | exact set_waits hc hw | exact st_net hil hth | exact st_ms hil | (simp only [setL, List.getElem?_cons_zero, List.getElem?_cons_succ, Value.cells, List.take_zero, List.take_succ_cons, List.take_nil, List.drop_zero, List.drop_succ_cons, List.drop_nil, List.length_cons, List.length_nil, List.cons_append, List.nil_append, List.append_nil, Nat.zero_add, Nat.add_zero, Nat.reduceAdd, Nat.reduceBEq, Nat.reduceEqDiff, Nat.ble, BEq.rfl, Bool.and_true, Bool.and_self, cond_true, beq_self_eq_true]; rfl)) ?_)
              clear hh w; intro w hh
              refine w_nil ?_
              have hl2 := hl.add (t := 0) (hl.add (t := 1) (hl.add (t := 4) (hl.add (t := 10) (hl.add (t := 12) (hl.add (t := 61) (hl.add (t := 62) (hl.add (t := 63) (hl.nil) rfl) rfl) rfl) rfl) rfl) rfl) rfl) rfl; clear hl; have hl := hl2; clear hl2
              refine blk_normal ?_
              refine then_normal ?_
              refine c_region ?_
              first | refine wl (wl_val hl rfl trivial (r_add hl rfl rfl (by simp only [Fits]; omega)) ?_) | refine wl (wl_val hl rfl trivial (r_addW hl rfl rfl) ?_)
              clear hl a; intro a hl
              refine wl (wl_val hl rfl trivial (r_move hl rfl) ?_)
              clear hl a; intro a hl
              refine w_nil ?_
              have hl2 := hl.add (t := 0) (hl.add (t := 1) (hl.add (t := 4) (hl.add (t := 10) (hl.add (t := 12) (hl.add (t := 61) (hl.add (t := 62) (hl.add (t := 63) (hl.nil) rfl) rfl) rfl) rfl) rfl) rfl) rfl) rfl; clear hl; have hl := hl2; clear hl2
              refine then_normal ?_
              subst hy1
              refine ⟨(j + 1), (by omega), (by omega), hl.addE (t := 63) (hl.addE (t := 0) (hl.addE (t := 1) (hl.addE (t := 4) (hl.addE (t := 10) (hl.addE (t := 12) (hl.addE (t := 61) (hl.addE (t := 62) (hl.nil) rfl (by first | rfl | (congr 1; omega))) rfl (by first | rfl | (congr 1; omega))) rfl (by first | rfl | (congr 1; omega))) rfl (by first | rfl | (congr 1; omega))) rfl (by first | rfl | (congr 1; omega))) rfl (by first | rfl | (congr 1; omega))) rfl (by first | rfl | (congr 1; omega))) rfl (by first | rfl | (congr 1; omega)), hh.keep (by repeat (first | exact keeps_nil | apply keeps_cons (by repeat (first | exact find_head | apply find_tail | apply find_skip)) (by first  | exact adj_oTT hht hyy (by assumption) (by assumption) | exact adj_oTF hht hyy (by assumption) (by assumption) | exact adj_oFT hht hyy (by assumption) (by assumption) | exact adj_oFF hht hyy (by assumption) (by assumption) | rfl) | exact keeps_self | exact keeps_left | apply keeps_app | apply keeps_mv | apply keeps_skip))⟩
            · intro hc4
              try simp only [decide_eq_true_eq, decide_eq_false_iff_not, Bool.not_eq_true', Bool.not_eq_false', Bool.not_eq_true, Bool.not_eq_false, Bool.and_eq_true, Bool.or_eq_true, Bool.and_eq_false_iff, Bool.or_eq_false_iff, Bool.not_not, ne_eq, Int.not_lt, Int.not_le, Decidable.not_not, beq_iff_eq, bne_iff_ne] at hc4
              refine wp_skip ?_
              refine blk_normal ?_
              refine then_normal ?_
              refine c_region ?_
              first | refine wl (wl_val hl rfl trivial (r_add hl rfl rfl (by simp only [Fits]; omega)) ?_) | refine wl (wl_val hl rfl trivial (r_addW hl rfl rfl) ?_)
              clear hl a; intro a hl
              refine wl (wl_val hl rfl trivial (r_move hl rfl) ?_)
              clear hl a; intro a hl
              refine w_nil ?_
              have hl2 := hl.add (t := 0) (hl.add (t := 1) (hl.add (t := 4) (hl.add (t := 10) (hl.add (t := 12) (hl.add (t := 61) (hl.add (t := 62) (hl.add (t := 63) (hl.nil) rfl) rfl) rfl) rfl) rfl) rfl) rfl) rfl; clear hl; have hl := hl2; clear hl2
              refine then_normal ?_
              subst hy1
              refine ⟨(j + 1), (by omega), (by omega), hl.addE (t := 63) (hl.addE (t := 0) (hl.addE (t := 1) (hl.addE (t := 4) (hl.addE (t := 10) (hl.addE (t := 12) (hl.addE (t := 61) (hl.addE (t := 62) (hl.nil) rfl (by first | rfl | (congr 1; omega))) rfl (by first | rfl | (congr 1; omega))) rfl (by first | rfl | (congr 1; omega))) rfl (by first | rfl | (congr 1; omega))) rfl (by first | rfl | (congr 1; omega))) rfl (by first | rfl | (congr 1; omega))) rfl (by first | rfl | (congr 1; omega))) rfl (by first | rfl | (congr 1; omega)), hh.keep (by repeat (first | exact keeps_nil | apply keeps_cons (by repeat (first | exact find_head | apply find_tail | apply find_skip)) (by first  | exact adj_oTT hht hyy (by assumption) (by assumption) | exact adj_oTF hht hyy (by assumption) (by assumption) | exact adj_oFT hht hyy (by assumption) (by assumption) | exact adj_oFF hht hyy (by assumption) (by assumption) | rfl) | exact keeps_self | exact keeps_left | apply keeps_app | apply keeps_mv | apply keeps_skip))⟩
        · intro hc2
          try simp only [decide_eq_true_eq, decide_eq_false_iff_not, Bool.not_eq_true', Bool.not_eq_false', Bool.not_eq_true, Bool.not_eq_false, Bool.and_eq_true, Bool.or_eq_true, Bool.and_eq_false_iff, Bool.or_eq_false_iff, Bool.not_not, ne_eq, Int.not_lt, Int.not_le, Decidable.not_not, beq_iff_eq, bne_iff_ne] at hc2
          have hjt9 : j = ts.length := by omega
          rw [hjt9, List.take_length] at hh
          refine wp_exit ?_
          refine then_exit ?_
          refine then_exit ?_
          refine blk_exit ?_
          refine then_normal ?_
          refine c_seq ?_
          refine c_region ?_
          refine wl (wl_val hl rfl trivial (r_move hl rfl) ?_)
          clear hl a; intro a hl
          refine wl (wl_val hl rfl trivial (r_nilCheck hl rfl) ?_)
          clear hl a; intro a hl
          refine wl (wl_val hl rfl trivial (r_field hl rfl fld150_2) ?_)
          clear hl a; intro a hl
          refine wl (w_load hl hh rfl trivial one3 rfl (by repeat (first | exact find_head | apply find_tail | apply find_skip)) (by first | exact hS.cell hc hw | exact sh_waits hc hw | exact ld_net hil hth | exact ld_ms hil | exact tk_at hht | rfl) ?_)
          clear hl a; intro a hl
          refine wl (wl_val hl rfl trivial (r_eql hl rfl rfl) ?_)
          clear hl a; intro a hl
          refine w_nil ?_
          have hl2 := hl.add (t := 0) (hl.add (t := 1) (hl.add (t := 10) (hl.add (t := 111) (hl.nil) rfl) rfl) rfl) rfl; clear hl; have hl := hl2; clear hl2
          refine then_normal ?_
          refine c_cond hl rfl ?_ ?_
          · intro hc5
            try simp only [decide_eq_true_eq, decide_eq_false_iff_not, Bool.not_eq_true', Bool.not_eq_false', Bool.not_eq_true, Bool.not_eq_false, Bool.and_eq_true, Bool.or_eq_true, Bool.and_eq_false_iff, Bool.or_eq_false_iff, Bool.not_not, ne_eq, Int.not_lt, Int.not_le, Decidable.not_not, beq_iff_eq, bne_iff_ne] at hc5
            refine c_draw [(bg, C (arrL 146 f1) 94)] [14, 15] mixed hh ?_
            clear hh w; intro w hh
            have hM : Mem [(bg, C (arrL 146 f1) 94)] w := (memK hh (by repeat (first | exact keeps_nil | apply keeps_cons (by repeat (first | exact find_head | apply find_tail | apply find_skip)) (by first  | rfl) | exact keeps_self | exact keeps_left | apply keeps_app | apply keeps_mv | apply keeps_skip)))
            refine d_take (i := 0) hl rfl (by kernel_rfl) (by kernel_rfl) (by kernel_rfl) (by kernel_rfl) (by kernel_rfl) rfl trivial (fun _ _ _ h => h) hM (fun w hC => r_move hl rfl) rfl ?_
            clear hl a; intro a hl
            refine d_take (i := 1) hl rfl (by kernel_rfl) (by kernel_rfl) (by kernel_rfl) (by kernel_rfl) (by kernel_rfl) rfl trivial (fun _ _ _ h => h) hM (fun w hC => r_move hl rfl) rfl ?_
            clear hl a; intro a hl
            refine d_take (i := 2) hl rfl (by kernel_rfl) (by kernel_rfl) (by kernel_rfl) (by kernel_rfl) (by kernel_rfl) rfl trivial (fun _ _ _ h => h) hM (fun w hC => r_move hl rfl) rfl ?_
            clear hl a; intro a hl
            refine d_take (i := 3) hl rfl (by kernel_rfl) (by kernel_rfl) (by kernel_rfl) (by kernel_rfl) (by kernel_rfl) rfl trivial (fun _ _ _ h => h) hM (fun w hC => r_move hl rfl) rfl ?_
            clear hl a; intro a hl
            refine d_take (i := 4) hl rfl (by kernel_rfl) (by kernel_rfl) (by kernel_rfl) (by kernel_rfl) (by kernel_rfl) rfl trivial (fun _ _ _ h => h) hM (fun w hC => r_nilCheck hl rfl) rfl ?_
            clear hl a; intro a hl
            refine d_take (i := 5) hl rfl (by kernel_rfl) (by kernel_rfl) (by kernel_rfl) (by kernel_rfl) (by kernel_rfl) rfl trivial (fun _ _ _ h => h) hM (fun w hC => r_field hl rfl fld91_1) rfl ?_
            clear hl a; intro a hl
            refine d_take (i := 6) hl rfl (by kernel_rfl) (by kernel_rfl) (by kernel_rfl) (by kernel_rfl) (by kernel_rfl) rfl trivial (fun _ _ _ h => h) hM (fun w hC => r_indexA hl rfl rfl arr89 (by omega) (by omega) (by first | (simp only [Int.reduceToNat]; rfl) | exact toNat_add1 _ | exact toNat_add2 _ _ | exact toNat_emod _ _ | exact Int.toNat_natCast _ | rfl)) rfl ?_
            clear hl a; intro a hl
            refine d_take (i := 7) hl rfl (by kernel_rfl) (by kernel_rfl) (by kernel_rfl) (by kernel_rfl) (by kernel_rfl) rfl trivial (fun _ _ _ h => h) hM (fun w hC => r_loadC hl rfl one88 hC (by repeat (first | exact find_head | apply find_tail | apply find_skip)) (by first | exact hS.cell hc hw | exact sh_waits hc hw | exact ld_net hil hth | exact ld_ms hil | exact tk_at hht | rfl)) rfl ?_
            clear hl a; intro a hl
            rw [hv1] at hl
            refine d_take (i := 8) hl rfl (by kernel_rfl) (by kernel_rfl) (by kernel_rfl) (by kernel_rfl) (by kernel_rfl) rfl trivial (fun _ _ _ h => h) hM (fun w hC => r_move hl rfl) rfl ?_
            clear hl a; intro a hl
            refine d_take (i := 9) hl rfl (by kernel_rfl) (by kernel_rfl) (by kernel_rfl) (by kernel_rfl) (by kernel_rfl) rfl trivial (fun _ _ _ h => h) hM (fun w hC => r_move hl rfl) rfl ?_
            clear hl a; intro a hl
            first | refine d_take (i := 10) hl rfl (by kernel_rfl) (by kernel_rfl) (by kernel_rfl) (by kernel_rfl) (by kernel_rfl) rfl trivial (fun _ _ _ h => h) hM (fun w hC => r_add hl rfl rfl (by simp only [Fits]; omega)) rfl ?_ | refine d_take (i := 10) hl rfl (by kernel_rfl) (by kernel_rfl) (by kernel_rfl) (by kernel_rfl) (by kernel_rfl) rfl trivial (fun _ _ _ h => h) hM (fun w hC => r_addW hl rfl rfl) rfl ?_
            clear hl a; intro a hl
            rw [show ((i : Int) + 1) = ((i + 1 : Nat) : Int) by omega] at hl
            refine d_take (i := 12) hl rfl (by kernel_rfl) (by kernel_rfl) (by kernel_rfl) (by kernel_rfl) (by kernel_rfl) rfl trivial (fun _ _ _ h => h) hM (fun w hC => r_nilCheck hl rfl) rfl ?_
            clear hl a; intro a hl
            refine d_take (i := 13) hl rfl (by kernel_rfl) (by kernel_rfl) (by kernel_rfl) (by kernel_rfl) (by kernel_rfl) rfl trivial (fun _ _ _ h => h) hM (fun w hC => r_field hl rfl fld91_1) rfl ?_
            clear hl a; intro a hl
            refine d_one (i := 11) (by kernel_rfl) rfl ?_
            try clear hM
            refine id (w_call hl hh rfl trivial rfl cal70 rfl (delWn (l1.set i (bump d x ts)) l1.length (by rw [List.length_set]) (some ⟨b1, 0, none⟩) cp1 _ (.inr ⟨b1, cp1, junk1, by rw [List.length_set], fl_len wtc_len _, hLs _, by rw [List.length_set]; exact hjc1, rfl⟩) (by rw [List.length_set]; omega) i (i + 1) (by omega) (by rw [List.length_set]; omega)) (by repeat (first | exact keeps_nil | apply keeps_cons (by repeat (first | exact find_head | apply find_tail | apply find_skip)) (by first  | rfl) | exact keeps_self | exact keeps_left | apply keeps_app | apply keeps_mv | apply keeps_skip)) trivial ?_)
            clear hl hh a w; intro vc Fc a w hR hl hh
            try simp only [List.cons_append, List.nil_append, List.append_assoc, List.append_nil] at hh
            have hRd2 := hR
            clear hR
            generalize Fc = Ed2 at hh hRd2
            generalize vc = vd2 at hl hRd2
            have hM : Mem [(bg, C (arrL 146 f1) 94)] w := (memK hh (by repeat (first | exact keeps_nil | apply keeps_cons (by repeat (first | exact find_head | apply find_tail | apply find_skip)) (by first  | rfl) | exact keeps_self | exact keeps_left | apply keeps_app | apply keeps_mv | apply keeps_skip)))
            refine d_step (fun _ => hM) ?_
            refine d_takeL (i := 14) hl rfl (by kernel_rfl) (by kernel_rfl) (by kernel_rfl) (by kernel_rfl) (by kernel_rfl) rfl trivial (fun _ _ _ h => h) (fun w => r_indexA hl rfl rfl arr89 (by omega) (by omega) (by first | (simp only [Int.reduceToNat]; rfl) | exact toNat_add1 _ | exact toNat_add2 _ _ | exact toNat_emod _ _ | exact Int.toNat_natCast _ | rfl)) rfl ?_
            clear hl a; intro a hl
            refine d_one (i := 15) (by kernel_rfl) rfl ?_
            try clear hM
            refine id (w_store hl hh trivial one88 rfl rfl (by repeat (first | exact find_head | apply find_tail | apply find_skip)) (by first | (simp; done) | (simp; omega) | (rw [arrL_length]; omega) | (rw [hLs]; omega)) (by first | rfl | assumption | (apply Row.one; assumption)) (by first | exact set_waits hc hw | exact st_net hil hth | exact st_ms hil | (simp only [setL, List.getElem?_cons_zero, List.getElem?_cons_succ, Value.cells, List.take_zero, List.take_succ_cons, List.take_nil, List.drop_zero, List.drop_succ_cons, List.drop_nil, List.length_cons, List.length_nil, List.cons_append, List.nil_append, List.append_nil, Nat.zero_add, Nat.add_zero, Nat.reduceAdd, Nat.reduceBEq, Nat.reduceEqDiff, Nat.ble, BEq.rfl, Bool.and_true, Bool.and_self, cond_true, beq_self_eq_true]; rfl)) ?_)
            clear hh w; intro w hh
            refine d_step (fun h => absurd h (by decide)) ?_
            refine d_done (by kernel_rfl) ?_
            try clear hM
            have hl2 := hl.nil; clear hl; have hl := hl2; clear hl2
            rw [ms_cut hA hi hk hts (by assumption)] at hRd2
            have hh2 := hh.keep (F' := ((bg, C (arrL 146 (updV f1 (34 + 32 * c + q) vd2)) 94) :: Ed2)) (by repeat (first | exact keeps_nil | apply keeps_cons (by repeat (first | exact find_head | apply find_tail | apply find_skip)) (by first  | rfl) | exact keeps_self | exact keeps_left | apply keeps_app | apply keeps_mv | apply keeps_skip))
            clear hh
            obtain ⟨f2, E2_, hh, hS2, hfr2⟩ : ∃ f2 E2, Has (List.map Prod.fst ((bg, C (arrL 146 f) 94) :: E)) w0 ((bg, C (arrL 146 f2) 94) :: E2) w ∧ ShR f2 c q fz (adjL e s d l) E2 ∧ ∀ j, j ≠ 34 + 32 * c + q → True → f2 j = f j := ⟨_, _, hh2, ⟨by rw [updV_ne _ _ (by omega)]; exact hS1.flr, by rw [updV_self]; exact hRd2⟩, fun j hj _ => by rw [updV_ne _ _ hj]; exact hfr j hj⟩
            clear hh2
            refine f_end0 (F' := ((bg, C (arrL 146 f2) 94) :: E2_)) hl hh rfl (by repeat (first | exact keeps_nil | apply keeps_cons (by repeat (first | exact find_head | apply find_tail | apply find_skip)) (by first  | rfl) | exact keeps_self | exact keeps_left | apply keeps_app | apply keeps_mv | apply keeps_skip)) ?_
            exact ⟨rfl, f2, E2_, rfl, hS2, hfr2⟩
          · intro hc5
            try simp only [decide_eq_true_eq, decide_eq_false_iff_not, Bool.not_eq_true', Bool.not_eq_false', Bool.not_eq_true, Bool.not_eq_false, Bool.and_eq_true, Bool.or_eq_true, Bool.and_eq_false_iff, Bool.or_eq_false_iff, Bool.not_not, ne_eq, Int.not_lt, Int.not_le, Decidable.not_not, beq_iff_eq, bne_iff_ne] at hc5
            have hh2 := hh.keep (F' := ((bg, C (arrL 146 f1) 94) :: [(b1, C (fl wtc (l1.set i (bump d x ts)) ++ junk1) 150)])) (by repeat (first | exact keeps_nil | apply keeps_cons (by repeat (first | exact find_head | apply find_tail | apply find_skip)) (by first  | rfl) | exact keeps_self | exact keeps_left | apply keeps_app | apply keeps_mv | apply keeps_skip))
            clear hh
            obtain ⟨f2, E2_, hh, hS2, hfr2⟩ : ∃ f2 E2, Has (List.map Prod.fst ((bg, C (arrL 146 f) 94) :: E)) w0 ((bg, C (arrL 146 f2) 94) :: E2) w ∧ ShR f2 c q fz (adjL e s d l) E2 ∧ ∀ j, j ≠ 34 + 32 * c + q → True → f2 j = f j := ⟨f1, _, hh2, ⟨hS1.flr, by rw [← ms_set hA hi hk hts (by assumption), hv1]; exact .inr ⟨b1, cp1, junk1, by rw [List.length_set], fl_len wtc_len _, hLs _, by rw [List.length_set]; exact hjc1, rfl⟩⟩, fun j hj _ => hfr j hj⟩
            clear hh2
            refine wp_skip ?_
            refine f_end0 (F' := ((bg, C (arrL 146 f2) 94) :: E2_)) hl hh rfl (by repeat (first | exact keeps_nil | apply keeps_cons (by repeat (first | exact find_head | apply find_tail | apply find_skip)) (by first  | rfl) | exact keeps_self | exact keeps_left | apply keeps_app | apply keeps_mv | apply keeps_skip)) ?_
            exact ⟨rfl, f2, E2_, rfl, hS2, hfr2⟩
      · intro hc1
        try simp only [decide_eq_true_eq, decide_eq_false_iff_not, Bool.not_eq_true', Bool.not_eq_false', Bool.not_eq_true, Bool.not_eq_false, Bool.and_eq_true, Bool.or_eq_true, Bool.and_eq_false_iff, Bool.or_eq_false_iff, Bool.not_not, ne_eq, Int.not_lt, Int.not_le, Decidable.not_not, beq_iff_eq, bne_iff_ne] at hc1
        have hfnd : fndW l i e = true := by assumption
        obtain ⟨x, hA0⟩ := AdjI.found hfnd
        obtain ⟨l1, hl1, hA⟩ : ∃ l1, l1 = l ∧ AdjI l i e l1 x := ⟨l, rfl, hA0⟩
        obtain ⟨f1, E1, hh1, hS1, hfr⟩ : ∃ f1 E1, Has (List.map Prod.fst ((bg, C (arrL 146 f) 94) :: E)) w0 ((bg, C (arrL 146 f1) 94) :: E1) w ∧ ShR f1 c q fz l1 E1 ∧ ∀ j, j ≠ 34 + 32 * c + q → f1 j = f j := ⟨f, E, hh, by rw [hl1]; exact hS, fun _ _ => rfl⟩
        clear hh
        have hh := hh1
        clear hh1
        have hil := hA.lt
        obtain ⟨b1, cp1, junk1, hv1, hjl1, hjc1, hE1⟩ := row_blk3 hS1.row (by omega)
        subst hE1
        try simp only [List.cons_append, List.nil_append, List.append_assoc, List.append_nil] at hh
        have hxc := hA.wtc hok
        have hxb : ∀ h, -B ≤ x.net h ∧ x.net h ≤ B := by
          intro h
          rcases hA.new with h1 | h1
          · rw [h1]; simp only [newW]; omega
          · exact hnb x h1 h
        have hl1len : l1.length ≤ 100000001 := by rw [hl1]; omega
        have hLs : ∀ y, (fl wtc (l1.set i y) ++ junk1).length = cp1 * 18 := fun y => by rw [← hjl1, List.length_append, List.length_append, fl_len wtc_len, fl_len wtc_len, List.length_set]
        refine wp_skip ?_
        refine then_normal ?_
        refine c_seq ?_
        refine c_region ?_
        refine wl (wl_val hl rfl trivial (r_move hl rfl) ?_)
        clear hl a; intro a hl
        refine wl (wl_val hl rfl trivial (r_move hl rfl) ?_)
        clear hl a; intro a hl
        refine wl (wl_val hl rfl trivial (r_nilCheck hl rfl) ?_)
        clear hl a; intro a hl
        refine wl (wl_val hl rfl trivial (r_field hl rfl fld91_1) ?_)
        clear hl a; intro a hl
        refine wl (wl_val hl rfl trivial (r_indexA hl rfl rfl arr89 (by omega) (by omega) (by first | (simp only [Int.reduceToNat]; rfl) | exact toNat_add1 _ | exact toNat_add2 _ _ | exact toNat_emod _ _ | exact Int.toNat_natCast _ | rfl)) ?_)
        clear hl a; intro a hl
        refine wl (w_load hl hh rfl trivial one88 rfl (by repeat (first | exact find_head | apply find_tail | apply find_skip)) (by first | exact hS.cell hc hw | exact sh_waits hc hw | exact ld_net hil hth | exact ld_ms hil | exact tk_at hht | rfl) ?_)
        clear hl a; intro a hl
        rw [hv1] at hl
        refine wl (wl_val hl rfl trivial (r_move hl rfl) ?_)
        clear hl a; intro a hl
        refine wl (wl_val hl rfl trivial (r_indexS hl rfl rfl slc88 (by omega) (by omega) (by first | (simp only [Int.reduceToNat]; rfl) | exact toNat_add1 _ | exact toNat_add2 _ _ | exact toNat_emod _ _ | exact Int.toNat_natCast _ | rfl)) ?_)
        clear hl a; intro a hl
        refine wl (wl_val hl rfl trivial (r_assign hl rfl) ?_)
        clear hl a; intro a hl
        refine w_nil ?_
        have hl2 := hl.add (t := 0) (hl.add (t := 1) (hl.add (t := 3) (hl.add (t := 4) (hl.add (t := 10) (hl.add (t := 12) (hl.nil) rfl) rfl) rfl) rfl) rfl) rfl; clear hl; have hl := hl2; clear hl2
        refine then_normal ?_
        refine c_seq ?_
        refine c_seq ?_
        refine c_region ?_
        refine wl (wl_val hl rfl trivial (r_move hl rfl) ?_)
        clear hl a; intro a hl
        refine wl (w_call hl hh rfl trivial rfl cal60 rfl (tasks_spec s tT tf) (by repeat (first | exact keeps_nil | apply keeps_cons (by repeat (first | exact find_head | apply find_tail | apply find_skip)) (by first  | rfl) | exact keeps_self | exact keeps_left | apply keeps_app | apply keeps_mv | apply keeps_skip)) (pt_heap hh hpre) ?_)
        clear hl hh a w; intro vc Fc a w hR hl hh
        try simp only [List.cons_append, List.nil_append, List.append_assoc, List.append_nil] at hh
        rw [← hts] at hR
        obtain ⟨kt, ct, jt, hvt, hjt, hct, hEt⟩ := row_blk3 hR htp
        subst hvt
        subst hEt
        clear hR
        try simp only [List.cons_append, List.nil_append, List.append_assoc, List.append_nil] at hh
        refine wl (wl_val hl rfl trivial (r_lenS hl rfl slc114) ?_)
        clear hl a; intro a hl
        refine wl (wl_val hl rfl trivial (r_move hl rfl) ?_)
        clear hl a; intro a hl
        refine w_nil ?_
        have hl2 := hl.add (t := 0) (hl.add (t := 1) (hl.add (t := 4) (hl.add (t := 10) (hl.add (t := 12) (hl.add (t := 61) (hl.add (t := 62) (hl.add (t := 63) (hl.nil) rfl) rfl) rfl) rfl) rfl) rfl) rfl) rfl; clear hl; have hl := hl2; clear hl2
        refine then_normal ?_
        refine wp_block ?_
        obtain ⟨KS0, hKS0, hk⟩ := (hl.add (t := 0) (hl.add (t := 1) (hl.add (t := 4) (hl.add (t := 10) (hl.add (t := 12) (hl.add (t := 61) (hl.add (t := 62) (hl.nil) rfl) rfl) rfl) rfl) rfl) rfl) rfl).name
        obtain ⟨HS0, hHS0, hh2⟩ := hh.name (keeps_cons (b := b1) (o' := C (fl wtc (l1.set i (bump d x (ts.take 0))) ++ junk1) 150) (by repeat (first | exact find_head | apply find_tail | apply find_skip)) (by first | exact adj_obj0 hA.get | rfl) (keeps_nil))
        refine c_loop (α := Nat) (fun j => ts.length - j) (fun j a w => (j ≤ ts.length) ∧ Sl 127 ([(63, .int .i64 (j : Int))] ++ KS0) a ∧ Has _ w0 ([(b1, C (fl wtc (l1.set i (bump d x (ts.take j))) ++ junk1) 150)] ++ HS0) w) 0 ⟨(by omega), hl.addE (t := 63) (hk) rfl (by first | rfl), hh2⟩ ?_
        clear hk hh2 hl hh a w
        intro j a w hI
        obtain ⟨hj, hl, hh⟩ := hI
        subst hKS0; subst hHS0
        simp only [List.cons_append, List.nil_append, List.append_nil, List.append_assoc] at hl hh
        have ht16 := tasks_len s
        rw [← hts] at ht16
        refine c_seq ?_
        refine c_region ?_
        refine wl (wl_val hl rfl trivial (r_lss hl rfl rfl) ?_)
        clear hl a; intro a hl
        refine w_nil ?_
        have hl2 := hl.add (t := 0) (hl.add (t := 1) (hl.add (t := 4) (hl.add (t := 10) (hl.add (t := 12) (hl.add (t := 61) (hl.add (t := 62) (hl.add (t := 63) (hl.add (t := 64) (hl.nil) rfl) rfl) rfl) rfl) rfl) rfl) rfl) rfl) rfl; clear hl; have hl := hl2; clear hl2
        refine then_normal ?_
        refine c_seq ?_
        refine c_cond hl rfl ?_ ?_
        · intro hc2
          try simp only [decide_eq_true_eq, decide_eq_false_iff_not, Bool.not_eq_true', Bool.not_eq_false', Bool.not_eq_true, Bool.not_eq_false, Bool.and_eq_true, Bool.or_eq_true, Bool.and_eq_false_iff, Bool.or_eq_false_iff, Bool.not_not, ne_eq, Int.not_lt, Int.not_le, Decidable.not_not, beq_iff_eq, bne_iff_ne] at hc2
          obtain ⟨h, hht⟩ : ∃ h, ts[j]? = some h := ⟨_, List.getElem?_eq_getElem (by omega)⟩
          have hth : h < 16 := tasks_lt (m := s) (by rw [← hts]; exact List.mem_of_getElem? hht)
          have hbd := bump_bd (c := d) (j := j) htn hd hxb h
          have hms := (wtC_bump (c := d) (ts.take j) x hxc (fun h hm => tasks_lt (m := s) (by rw [← hts]; exact List.mem_of_mem_take hm))).ms_rng
          generalize hyy : bump d x (ts.take j) = y at hh hbd hms
          refine wp_skip ?_
          refine then_normal ?_
          refine c_seq ?_
          refine wp_block ?_
          refine c_seq ?_
          refine c_region ?_
          refine wl (wl_val hl rfl trivial (r_indexS hl rfl rfl slc114 (by omega) (by omega) (by first | (simp only [Int.reduceToNat]; rfl) | exact toNat_add1 _ | exact toNat_add2 _ _ | exact toNat_emod _ _ | exact Int.toNat_natCast _ | rfl)) ?_)
          clear hl a; intro a hl
          refine wl (w_load hl hh rfl trivial one57 rfl (by repeat (first | exact find_head | apply find_tail | apply find_skip)) (by first | exact hS.cell hc hw | exact sh_waits hc hw | exact ld_net hil hth | exact ld_ms hil | exact tk_at hht | rfl) ?_)
          clear hl a; intro a hl
          refine wl (wl_val hl rfl trivial (r_assign hl rfl) ?_)
          clear hl a; intro a hl
          refine w_nil ?_
          have hl2 := hl.add (t := 0) (hl.add (t := 1) (hl.add (t := 4) (hl.add (t := 10) (hl.add (t := 12) (hl.add (t := 14) (hl.add (t := 61) (hl.add (t := 62) (hl.add (t := 63) (hl.nil) rfl) rfl) rfl) rfl) rfl) rfl) rfl) rfl) rfl; clear hl; have hl := hl2; clear hl2
          refine then_normal ?_
          refine c_seq ?_
          refine c_seq ?_
          refine c_region ?_
          refine wl (wl_val hl rfl trivial (r_move hl rfl) ?_)
          clear hl a; intro a hl
          refine wl (wl_val hl rfl trivial (r_move hl rfl) ?_)
          clear hl a; intro a hl
          refine wl (wl_val hl rfl trivial (r_nilCheck hl rfl) ?_)
          clear hl a; intro a hl
          refine wl (wl_val hl rfl trivial (r_field hl rfl fld150_1) ?_)
          clear hl a; intro a hl
          refine wl (wl_val hl rfl trivial (r_indexA hl rfl rfl arr106 (by omega) (by omega) (by first | (simp only [Int.reduceToNat]; rfl) | exact toNat_add1 _ | exact toNat_add2 _ _ | exact toNat_emod _ _ | exact Int.toNat_natCast _ | rfl)) ?_)
          clear hl a; intro a hl
          refine wl (w_load hl hh rfl trivial one3 rfl (by repeat (first | exact find_head | apply find_tail | apply find_skip)) (by first | exact hS.cell hc hw | exact sh_waits hc hw | exact ld_net hil hth | exact ld_ms hil | exact tk_at hht | rfl) ?_)
          clear hl a; intro a hl
          refine wl (wl_val hl rfl trivial (r_eql hl rfl rfl) ?_)
          clear hl a; intro a hl
          refine w_nil ?_
          have hl2 := hl.add (t := 0) (hl.add (t := 1) (hl.add (t := 4) (hl.add (t := 10) (hl.add (t := 12) (hl.add (t := 14) (hl.add (t := 61) (hl.add (t := 62) (hl.add (t := 63) (hl.add (t := 73) (hl.nil) rfl) rfl) rfl) rfl) rfl) rfl) rfl) rfl) rfl) rfl; clear hl; have hl := hl2; clear hl2
          refine then_normal ?_
          refine c_cond hl rfl ?_ ?_
          · intro hc3
            try simp only [decide_eq_true_eq, decide_eq_false_iff_not, Bool.not_eq_true', Bool.not_eq_false', Bool.not_eq_true, Bool.not_eq_false, Bool.and_eq_true, Bool.or_eq_true, Bool.and_eq_false_iff, Bool.or_eq_false_iff, Bool.not_not, ne_eq, Int.not_lt, Int.not_le, Decidable.not_not, beq_iff_eq, bne_iff_ne] at hc3
            refine c_region ?_
            refine wl (wl_val hl rfl trivial (r_move hl rfl) ?_)
            clear hl a; intro a hl
            refine wl (wl_val hl rfl trivial (r_nilCheck hl rfl) ?_)
            clear hl a; intro a hl
            refine wl (wl_val hl rfl trivial (r_field hl rfl fld150_2) ?_)
            clear hl a; intro a hl
            refine wl (w_load hl hh rfl trivial one3 rfl (by repeat (first | exact find_head | apply find_tail | apply find_skip)) (by first | exact hS.cell hc hw | exact sh_waits hc hw | exact ld_net hil hth | exact ld_ms hil | exact tk_at hht | rfl) ?_)
            clear hl a; intro a hl
            first | refine wl (wl_val hl rfl trivial (r_add hl rfl rfl (by simp only [Fits]; omega)) ?_) | refine wl (wl_val hl rfl trivial (r_addW hl rfl rfl) ?_)
            clear hl a; intro a hl
            refine wl (wl_val hl rfl trivial (r_nilCheck hl rfl) ?_)
            clear hl a; intro a hl
            refine wl (wl_val hl rfl trivial (r_field hl rfl fld150_2) ?_)
            clear hl a; intro a hl
            refine wl (w_store hl hh trivial one3 rfl rfl (by repeat (first | exact find_head | apply find_tail | apply find_skip)) (by first | (simp; done) | (simp; omega) | (rw [arrL_length]; omega) | (rw [hLs]; omega)) (by first | rfl | assumption | (apply Row.one; assumption)) (by first | exact set_waits hc hw | exact st_net hil hth | exact st_ms hil | (simp only [setL, List.getElem?_cons_zero, List.getElem?_cons_succ, Value.cells, List.take_zero, List.take_succ_cons, List.take_nil, List.drop_zero, List.drop_succ_cons, List.drop_nil, List.length_cons, List.length_nil, List.cons_append, List.nil_append, List.append_nil, Nat.zero_add, Nat.add_zero, Nat.reduceAdd, Nat.reduceBEq, Nat.reduceEqDiff, Nat.ble, BEq.rfl, Bool.and_true, Bool.and_self, cond_true, beq_self_eq_true]; rfl)) ?_)
            clear hh w; intro w hh
            refine w_nil ?_
            have hl2 := hl.add (t := 0) (hl.add (t := 1) (hl.add (t := 4) (hl.add (t := 10) (hl.add (t := 12) (hl.add (t := 14) (hl.add (t := 61) (hl.add (t := 62) (hl.add (t := 63) (hl.nil) rfl) rfl) rfl) rfl) rfl) rfl) rfl) rfl) rfl; clear hl; have hl := hl2; clear hl2
            obtain ⟨y1, hy1⟩ : ∃ z, z = setMs y (y.ms + 1) := ⟨_, rfl⟩
            rw [← hy1] at hh
            have hn1 : y1.net = y.net := by rw [hy1]; rfl
            have hm1 : y1.ms = y.ms + 1 := by rw [hy1]; rfl
            refine then_normal ?_
            refine c_seq ?_
            refine c_draw [(b1, C (fl wtc (l1.set i y1) ++ junk1) 150)] [10, 11] mixed hh ?_
            clear hh w; intro w hh
            have hM : Mem [(b1, C (fl wtc (l1.set i y1) ++ junk1) 150)] w := (memK hh (by repeat (first | exact keeps_nil | apply keeps_cons (by repeat (first | exact find_head | apply find_tail | apply find_skip)) (by first  | rfl) | exact keeps_self | exact keeps_left | apply keeps_app | apply keeps_mv | apply keeps_skip)))
            refine d_take (i := 0) hl rfl (by kernel_rfl) (by kernel_rfl) (by kernel_rfl) (by kernel_rfl) (by kernel_rfl) rfl trivial (fun _ _ _ h => h) hM (fun w hC => r_move hl rfl) rfl ?_
            clear hl a; intro a hl
            refine d_take (i := 1) hl rfl (by kernel_rfl) (by kernel_rfl) (by kernel_rfl) (by kernel_rfl) (by kernel_rfl) rfl trivial (fun _ _ _ h => h) hM (fun w hC => r_move hl rfl) rfl ?_
            clear hl a; intro a hl
            refine d_take (i := 2) hl rfl (by kernel_rfl) (by kernel_rfl) (by kernel_rfl) (by kernel_rfl) (by kernel_rfl) rfl trivial (fun _ _ _ h => h) hM (fun w hC => r_nilCheck hl rfl) rfl ?_
            clear hl a; intro a hl
            refine d_take (i := 3) hl rfl (by kernel_rfl) (by kernel_rfl) (by kernel_rfl) (by kernel_rfl) (by kernel_rfl) rfl trivial (fun _ _ _ h => h) hM (fun w hC => r_field hl rfl fld150_1) rfl ?_
            clear hl a; intro a hl
            refine d_take (i := 4) hl rfl (by kernel_rfl) (by kernel_rfl) (by kernel_rfl) (by kernel_rfl) (by kernel_rfl) rfl trivial (fun _ _ _ h => h) hM (fun w hC => r_indexA hl rfl rfl arr106 (by omega) (by omega) (by first | (simp only [Int.reduceToNat]; rfl) | exact toNat_add1 _ | exact toNat_add2 _ _ | exact toNat_emod _ _ | exact Int.toNat_natCast _ | rfl)) rfl ?_
            clear hl a; intro a hl
            refine d_take (i := 5) hl rfl (by kernel_rfl) (by kernel_rfl) (by kernel_rfl) (by kernel_rfl) (by kernel_rfl) rfl trivial (fun _ _ _ h => h) hM (fun w hC => r_loadC hl rfl one3 hC (by repeat (first | exact find_head | apply find_tail | apply find_skip)) (by first | exact hS.cell hc hw | exact sh_waits hc hw | exact ld_net hil hth | exact ld_ms hil | exact tk_at hht | rfl)) rfl ?_
            clear hl a; intro a hl
            try simp only [setNet_ms, setNet_self, hn1, hm1] at hl
            refine d_take (i := 6) hl rfl (by kernel_rfl) (by kernel_rfl) (by kernel_rfl) (by kernel_rfl) (by kernel_rfl) rfl trivial (fun _ _ _ h => h) hM (fun w hC => r_move hl rfl) rfl ?_
            clear hl a; intro a hl
            first | refine d_take (i := 7) hl rfl (by kernel_rfl) (by kernel_rfl) (by kernel_rfl) (by kernel_rfl) (by kernel_rfl) rfl trivial (fun _ _ _ h => h) hM (fun w hC => r_add hl rfl rfl (by simp only [Fits]; omega)) rfl ?_ | refine d_take (i := 7) hl rfl (by kernel_rfl) (by kernel_rfl) (by kernel_rfl) (by kernel_rfl) (by kernel_rfl) rfl trivial (fun _ _ _ h => h) hM (fun w hC => r_addW hl rfl rfl) rfl ?_
            clear hl a; intro a hl
            refine d_take (i := 8) hl rfl (by kernel_rfl) (by kernel_rfl) (by kernel_rfl) (by kernel_rfl) (by kernel_rfl) rfl trivial (fun _ _ _ h => h) hM (fun w hC => r_nilCheck hl rfl) rfl ?_
            clear hl a; intro a hl
            refine d_take (i := 9) hl rfl (by kernel_rfl) (by kernel_rfl) (by kernel_rfl) (by kernel_rfl) (by kernel_rfl) rfl trivial (fun _ _ _ h => h) hM (fun w hC => r_field hl rfl fld150_1) rfl ?_
            clear hl a; intro a hl
            refine d_takeL (i := 10) hl rfl (by kernel_rfl) (by kernel_rfl) (by kernel_rfl) (by kernel_rfl) (by kernel_rfl) rfl trivial (fun _ _ _ h => h) (fun w => r_indexA hl rfl rfl arr106 (by omega) (by omega) (by first | (simp only [Int.reduceToNat]; rfl) | exact toNat_add1 _ | exact toNat_add2 _ _ | exact toNat_emod _ _ | exact Int.toNat_natCast _ | rfl)) rfl ?_
            clear hl a; intro a hl
            refine d_one (i := 11) (by kernel_rfl) rfl ?_
            try clear hM
            refine id (w_store hl hh trivial one3 rfl rfl (by repeat (first | exact find_head | apply find_tail | apply find_skip)) (by first | (simp; done) | (simp; omega) | (rw [arrL_length]; omega) | (rw [hLs]; omega)) (by first | rfl | assumption | (apply Row.one; assumption)) (by first | exact set_waits hc hw | exact st_net hil hth | exact st_ms hil | (simp only [setL, List.getElem?_cons_zero, List.getElem?_cons_succ, Value.cells, List.take_zero, List.take_succ_cons, List.take_nil, List.drop_zero, List.drop_succ_cons, List.drop_nil, List.length_cons, List.length_nil, List.cons_append, List.nil_append, List.append_nil, Nat.zero_add, Nat.add_zero, Nat.reduceAdd, Nat.reduceBEq, Nat.reduceEqDiff, Nat.ble, BEq.rfl, Bool.and_true, Bool.and_self, cond_true, beq_self_eq_true]; rfl)) ?_)
            clear hh w; intro w hh
            refine d_step (fun h => absurd h (by decide)) ?_
            refine d_done (by kernel_rfl) ?_
            try clear hM
            have hl2 := hl.add (t := 0) (hl.add (t := 1) (hl.add (t := 4) (hl.add (t := 10) (hl.add (t := 12) (hl.add (t := 14) (hl.add (t := 61) (hl.add (t := 62) (hl.add (t := 63) (hl.nil) rfl) rfl) rfl) rfl) rfl) rfl) rfl) rfl) rfl; clear hl; have hl := hl2; clear hl2
            refine then_normal ?_
            refine c_seq ?_
            refine c_region ?_
            refine wl (wl_val hl rfl trivial (r_move hl rfl) ?_)
            clear hl a; intro a hl
            refine wl (wl_val hl rfl trivial (r_move hl rfl) ?_)
            clear hl a; intro a hl
            refine wl (wl_val hl rfl trivial (r_nilCheck hl rfl) ?_)
            clear hl a; intro a hl
            refine wl (wl_val hl rfl trivial (r_field hl rfl fld150_1) ?_)
            clear hl a; intro a hl
            refine wl (wl_val hl rfl trivial (r_indexA hl rfl rfl arr106 (by omega) (by omega) (by first | (simp only [Int.reduceToNat]; rfl) | exact toNat_add1 _ | exact toNat_add2 _ _ | exact toNat_emod _ _ | exact Int.toNat_natCast _ | rfl)) ?_)
            clear hl a; intro a hl
            refine wl (w_load hl hh rfl trivial one3 rfl (by repeat (first | exact find_head | apply find_tail | apply find_skip)) (by first | exact hS.cell hc hw | exact sh_waits hc hw | exact ld_net hil hth | exact ld_ms hil | exact tk_at hht | rfl) ?_)
            clear hl a; intro a hl
            try simp only [setNet_ms, setNet_self, hn1, hm1] at hl
            refine wl (wl_val hl rfl trivial (r_eql hl rfl rfl) ?_)
            clear hl a; intro a hl
            refine w_nil ?_
            have hl2 := hl.add (t := 0) (hl.add (t := 1) (hl.add (t := 4) (hl.add (t := 10) (hl.add (t := 12) (hl.add (t := 61) (hl.add (t := 62) (hl.add (t := 63) (hl.add (t := 98) (hl.nil) rfl) rfl) rfl) rfl) rfl) rfl) rfl) rfl) rfl; clear hl; have hl := hl2; clear hl2
            refine then_normal ?_
            refine c_cond hl rfl ?_ ?_
            · intro hc4
              try simp only [decide_eq_true_eq, decide_eq_false_iff_not, Bool.not_eq_true', Bool.not_eq_false', Bool.not_eq_true, Bool.not_eq_false, Bool.and_eq_true, Bool.or_eq_true, Bool.and_eq_false_iff, Bool.or_eq_false_iff, Bool.not_not, ne_eq, Int.not_lt, Int.not_le, Decidable.not_not, beq_iff_eq, bne_iff_ne] at hc4
              refine c_region ?_
              refine wl (wl_val hl rfl trivial (r_move hl rfl) ?_)
              clear hl a; intro a hl
              refine wl (wl_val hl rfl trivial (r_nilCheck hl rfl) ?_)
              clear hl a; intro a hl
              refine wl (wl_val hl rfl trivial (r_field hl rfl fld150_2) ?_)
              clear hl a; intro a hl
              refine wl (w_load hl hh rfl trivial one3 rfl (by repeat (first | exact find_head | apply find_tail | apply find_skip)) (by first | exact hS.cell hc hw | exact sh_waits hc hw | exact ld_net hil hth | exact ld_ms hil | exact tk_at hht | rfl) ?_)
              clear hl a; intro a hl
              try simp only [setNet_ms, setNet_self, hn1, hm1] at hl
              first | refine wl (wl_val hl rfl trivial (r_sub hl rfl rfl (by simp only [Fits]; omega)) ?_) | refine wl (wl_val hl rfl trivial (r_subW hl rfl rfl) ?_)
              clear hl a; intro a hl
              refine wl (wl_val hl rfl trivial (r_nilCheck hl rfl) ?_)
              clear hl a; intro a hl
              refine wl (wl_val hl rfl trivial (r_field hl rfl fld150_2) ?_)
              clear hl a; intro a hl
              refine wl (w_store hl hh trivial one3 rfl rfl (by repeat (first | exact find_head | apply find_tail | apply find_skip)) (by first | (simp; done) | (simp; omega) | (rw [arrL_length]; omega) | (rw [hLs]; omega)) (by first | rfl | assumption | (apply Row.one; assumption)) (by first | exact set_waits hc hw | exact st_net hil hth | exact st_ms hil | (simp only [setL, List.getElem?_cons_zero, List.getElem?_cons_succ, Value.cells, List.take_zero, List.take_succ_cons, List.take_nil, List.drop_zero, List.drop_succ_cons, List.drop_nil, List.length_cons, List.length_nil, List.cons_append, List.nil_append, List.append_nil, Nat.zero_add, Nat.add_zero, Nat.reduceAdd, Nat.reduceBEq, Nat.reduceEqDiff, Nat.ble, BEq.rfl, Bool.and_true, Bool.and_self, cond_true, beq_self_eq_true]; rfl)) ?_)
              clear hh w; intro w hh
              refine w_nil ?_
              have hl2 := hl.add (t := 0) (hl.add (t := 1) (hl.add (t := 4) (hl.add (t := 10) (hl.add (t := 12) (hl.add (t := 61) (hl.add (t := 62) (hl.add (t := 63) (hl.nil) rfl) rfl) rfl) rfl) rfl) rfl) rfl) rfl; clear hl; have hl := hl2; clear hl2
              refine blk_normal ?_
              refine then_normal ?_
              refine c_region ?_
              first | refine wl (wl_val hl rfl trivial (r_add hl rfl rfl (by simp only [Fits]; omega)) ?_) | refine wl (wl_val hl rfl trivial (r_addW hl rfl rfl) ?_)
              clear hl a; intro a hl
              refine wl (wl_val hl rfl trivial (r_move hl rfl) ?_)
              clear hl a; intro a hl
              refine w_nil ?_
              have hl2 := hl.add (t := 0) (hl.add (t := 1) (hl.add (t := 4) (hl.add (t := 10) (hl.add (t := 12) (hl.add (t := 61) (hl.add (t := 62) (hl.add (t := 63) (hl.nil) rfl) rfl) rfl) rfl) rfl) rfl) rfl) rfl; clear hl; have hl := hl2; clear hl2
              refine then_normal ?_
              subst hy1
              refine ⟨(j + 1), (by omega), (by omega), hl.addE (t := 63) (hl.addE (t := 0) (hl.addE (t := 1) (hl.addE (t := 4) (hl.addE (t := 10) (hl.addE (t := 12) (hl.addE (t := 61) (hl.addE (t := 62) (hl.nil) rfl (by first | rfl | (congr 1; omega))) rfl (by first | rfl | (congr 1; omega))) rfl (by first | rfl | (congr 1; omega))) rfl (by first | rfl | (congr 1; omega))) rfl (by first | rfl | (congr 1; omega))) rfl (by first | rfl | (congr 1; omega))) rfl (by first | rfl | (congr 1; omega))) rfl (by first | rfl | (congr 1; omega)), hh.keep (by repeat (first | exact keeps_nil | apply keeps_cons (by repeat (first | exact find_head | apply find_tail | apply find_skip)) (by first  | exact adj_oTT hht hyy (by assumption) (by assumption) | exact adj_oTF hht hyy (by assumption) (by assumption) | exact adj_oFT hht hyy (by assumption) (by assumption) | exact adj_oFF hht hyy (by assumption) (by assumption) | rfl) | exact keeps_self | exact keeps_left | apply keeps_app | apply keeps_mv | apply keeps_skip))⟩
            · intro hc4
              try simp only [decide_eq_true_eq, decide_eq_false_iff_not, Bool.not_eq_true', Bool.not_eq_false', Bool.not_eq_true, Bool.not_eq_false, Bool.and_eq_true, Bool.or_eq_true, Bool.and_eq_false_iff, Bool.or_eq_false_iff, Bool.not_not, ne_eq, Int.not_lt, Int.not_le, Decidable.not_not, beq_iff_eq, bne_iff_ne] at hc4
              refine wp_skip ?_
              refine blk_normal ?_
              refine then_normal ?_
              refine c_region ?_
              first | refine wl (wl_val hl rfl trivial (r_add hl rfl rfl (by simp only [Fits]; omega)) ?_) | refine wl (wl_val hl rfl trivial (r_addW hl rfl rfl) ?_)
              clear hl a; intro a hl
              refine wl (wl_val hl rfl trivial (r_move hl rfl) ?_)
              clear hl a; intro a hl
              refine w_nil ?_
              have hl2 := hl.add (t := 0) (hl.add (t := 1) (hl.add (t := 4) (hl.add (t := 10) (hl.add (t := 12) (hl.add (t := 61) (hl.add (t := 62) (hl.add (t := 63) (hl.nil) rfl) rfl) rfl) rfl) rfl) rfl) rfl) rfl; clear hl; have hl := hl2; clear hl2
              refine then_normal ?_
              subst hy1
              refine ⟨(j + 1), (by omega), (by omega), hl.addE (t := 63) (hl.addE (t := 0) (hl.addE (t := 1) (hl.addE (t := 4) (hl.addE (t := 10) (hl.addE (t := 12) (hl.addE (t := 61) (hl.addE (t := 62) (hl.nil) rfl (by first | rfl | (congr 1; omega))) rfl (by first | rfl | (congr 1; omega))) rfl (by first | rfl | (congr 1; omega))) rfl (by first | rfl | (congr 1; omega))) rfl (by first | rfl | (congr 1; omega))) rfl (by first | rfl | (congr 1; omega))) rfl (by first | rfl | (congr 1; omega))) rfl (by first | rfl | (congr 1; omega)), hh.keep (by repeat (first | exact keeps_nil | apply keeps_cons (by repeat (first | exact find_head | apply find_tail | apply find_skip)) (by first  | exact adj_oTT hht hyy (by assumption) (by assumption) | exact adj_oTF hht hyy (by assumption) (by assumption) | exact adj_oFT hht hyy (by assumption) (by assumption) | exact adj_oFF hht hyy (by assumption) (by assumption) | rfl) | exact keeps_self | exact keeps_left | apply keeps_app | apply keeps_mv | apply keeps_skip))⟩
          · intro hc3
            try simp only [decide_eq_true_eq, decide_eq_false_iff_not, Bool.not_eq_true', Bool.not_eq_false', Bool.not_eq_true, Bool.not_eq_false, Bool.and_eq_true, Bool.or_eq_true, Bool.and_eq_false_iff, Bool.or_eq_false_iff, Bool.not_not, ne_eq, Int.not_lt, Int.not_le, Decidable.not_not, beq_iff_eq, bne_iff_ne] at hc3
            obtain ⟨y1, hy1⟩ : ∃ z, z = y := ⟨_, rfl⟩
            rw [← hy1] at hh
            have hn1 : y1.net = y.net := by rw [hy1]
            have hm1 : y1.ms = y.ms := by rw [hy1]
            refine wp_skip ?_
            refine then_normal ?_
            refine c_seq ?_
            refine c_draw [(b1, C (fl wtc (l1.set i y1) ++ junk1) 150)] [10, 11] mixed hh ?_
            clear hh w; intro w hh
            have hM : Mem [(b1, C (fl wtc (l1.set i y1) ++ junk1) 150)] w := (memK hh (by repeat (first | exact keeps_nil | apply keeps_cons (by repeat (first | exact find_head | apply find_tail | apply find_skip)) (by first  | rfl) | exact keeps_self | exact keeps_left | apply keeps_app | apply keeps_mv | apply keeps_skip)))
            refine d_take (i := 0) hl rfl (by kernel_rfl) (by kernel_rfl) (by kernel_rfl) (by kernel_rfl) (by kernel_rfl) rfl trivial (fun _ _ _ h => h) hM (fun w hC => r_move hl rfl) rfl ?_
            clear hl a; intro a hl
            refine d_take (i := 1) hl rfl (by kernel_rfl) (by kernel_rfl) (by kernel_rfl) (by kernel_rfl) (by kernel_rfl) rfl trivial (fun _ _ _ h => h) hM (fun w hC => r_move hl rfl) rfl ?_
            clear hl a; intro a hl
            refine d_take (i := 2) hl rfl (by kernel_rfl) (by kernel_rfl) (by kernel_rfl) (by kernel_rfl) (by kernel_rfl) rfl trivial (fun _ _ _ h => h) hM (fun w hC => r_nilCheck hl rfl) rfl ?_
            clear hl a; intro a hl
            refine d_take (i := 3) hl rfl (by kernel_rfl) (by kernel_rfl) (by kernel_rfl) (by kernel_rfl) (by kernel_rfl) rfl trivial (fun _ _ _ h => h) hM (fun w hC => r_field hl rfl fld150_1) rfl ?_
            clear hl a; intro a hl
            refine d_take (i := 4) hl rfl (by kernel_rfl) (by kernel_rfl) (by kernel_rfl) (by kernel_rfl) (by kernel_rfl) rfl trivial (fun _ _ _ h => h) hM (fun w hC => r_indexA hl rfl rfl arr106 (by omega) (by omega) (by first | (simp only [Int.reduceToNat]; rfl) | exact toNat_add1 _ | exact toNat_add2 _ _ | exact toNat_emod _ _ | exact Int.toNat_natCast _ | rfl)) rfl ?_
            clear hl a; intro a hl
            refine d_take (i := 5) hl rfl (by kernel_rfl) (by kernel_rfl) (by kernel_rfl) (by kernel_rfl) (by kernel_rfl) rfl trivial (fun _ _ _ h => h) hM (fun w hC => r_loadC hl rfl one3 hC (by repeat (first | exact find_head | apply find_tail | apply find_skip)) (by first | exact hS.cell hc hw | exact sh_waits hc hw | exact ld_net hil hth | exact ld_ms hil | exact tk_at hht | rfl)) rfl ?_
            clear hl a; intro a hl
            try simp only [setNet_ms, setNet_self, hn1, hm1] at hl
            refine d_take (i := 6) hl rfl (by kernel_rfl) (by kernel_rfl) (by kernel_rfl) (by kernel_rfl) (by kernel_rfl) rfl trivial (fun _ _ _ h => h) hM (fun w hC => r_move hl rfl) rfl ?_
            clear hl a; intro a hl
            first | refine d_take (i := 7) hl rfl (by kernel_rfl) (by kernel_rfl) (by kernel_rfl) (by kernel_rfl) (by kernel_rfl) rfl trivial (fun _ _ _ h => h) hM (fun w hC => r_add hl rfl rfl (by simp only [Fits]; omega)) rfl ?_ | refine d_take (i := 7) hl rfl (by kernel_rfl) (by kernel_rfl) (by kernel_rfl) (by kernel_rfl) (by kernel_rfl) rfl trivial (fun _ _ _ h => h) hM (fun w hC => r_addW hl rfl rfl) rfl ?_
            clear hl a; intro a hl
            refine d_take (i := 8) hl rfl (by kernel_rfl) (by kernel_rfl) (by kernel_rfl) (by kernel_rfl) (by kernel_rfl) rfl trivial (fun _ _ _ h => h) hM (fun w hC => r_nilCheck hl rfl) rfl ?_
            clear hl a; intro a hl
            refine d_take (i := 9) hl rfl (by kernel_rfl) (by kernel_rfl) (by kernel_rfl) (by kernel_rfl) (by kernel_rfl) rfl trivial (fun _ _ _ h => h) hM (fun w hC => r_field hl rfl fld150_1) rfl ?_
            clear hl a; intro a hl
            refine d_takeL (i := 10) hl rfl (by kernel_rfl) (by kernel_rfl) (by kernel_rfl) (by kernel_rfl) (by kernel_rfl) rfl trivial (fun _ _ _ h => h) (fun w => r_indexA hl rfl rfl arr106 (by omega) (by omega) (by first | (simp only [Int.reduceToNat]; rfl) | exact toNat_add1 _ | exact toNat_add2 _ _ | exact toNat_emod _ _ | exact Int.toNat_natCast _ | rfl)) rfl ?_
            clear hl a; intro a hl
            refine d_one (i := 11) (by kernel_rfl) rfl ?_
            try clear hM
            refine id (w_store hl hh trivial one3 rfl rfl (by repeat (first | exact find_head | apply find_tail | apply find_skip)) (by first | (simp; done) | (simp; omega) | (rw [arrL_length]; omega) | (rw [hLs]; omega)) (by first | rfl | assumption | (apply Row.one; assumption)) (by first | exact set_waits hc hw | exact st_net hil hth | exact st_ms hil | (simp only [setL, List.getElem?_cons_zero, List.getElem?_cons_succ, Value.cells, List.take_zero, List.take_succ_cons, List.take_nil, List.drop_zero, List.drop_succ_cons, List.drop_nil, List.length_cons, List.length_nil, List.cons_append, List.nil_append, List.append_nil, Nat.zero_add, Nat.add_zero, Nat.reduceAdd, Nat.reduceBEq, Nat.reduceEqDiff, Nat.ble, BEq.rfl, Bool.and_true, Bool.and_self, cond_true, beq_self_eq_true]; rfl)) ?_)
            clear hh w; intro w hh
            refine d_step (fun h => absurd h (by decide)) ?_
            refine d_done (by kernel_rfl) ?_
            try clear hM
            have hl2 := hl.add (t := 0) (hl.add (t := 1) (hl.add (t := 4) (hl.add (t := 10) (hl.add (t := 12) (hl.add (t := 14) (hl.add (t := 61) (hl.add (t := 62) (hl.add (t := 63) (hl.nil) rfl) rfl) rfl) rfl) rfl) rfl) rfl) rfl) rfl; clear hl; have hl := hl2; clear hl2
            refine then_normal ?_
            refine c_seq ?_
            refine c_region ?_
            refine wl (wl_val hl rfl trivial (r_move hl rfl) ?_)
            clear hl a; intro a hl
            refine wl (wl_val hl rfl trivial (r_move hl rfl) ?_)
            clear hl a; intro a hl
            refine wl (wl_val hl rfl trivial (r_nilCheck hl rfl) ?_)
            clear hl a; intro a hl
            refine wl (wl_val hl rfl trivial (r_field hl rfl fld150_1) ?_)
            clear hl a; intro a hl
            refine wl (wl_val hl rfl trivial (r_indexA hl rfl rfl arr106 (by omega) (by omega) (by first | (simp only [Int.reduceToNat]; rfl) | exact toNat_add1 _ | exact toNat_add2 _ _ | exact toNat_emod _ _ | exact Int.toNat_natCast _ | rfl)) ?_)
            clear hl a; intro a hl
            refine wl (w_load hl hh rfl trivial one3 rfl (by repeat (first | exact find_head | apply find_tail | apply find_skip)) (by first | exact hS.cell hc hw | exact sh_waits hc hw | exact ld_net hil hth | exact ld_ms hil | exact tk_at hht | rfl) ?_)
            clear hl a; intro a hl
            try simp only [setNet_ms, setNet_self, hn1, hm1] at hl
            refine wl (wl_val hl rfl trivial (r_eql hl rfl rfl) ?_)
            clear hl a; intro a hl
            refine w_nil ?_
            have hl2 := hl.add (t := 0) (hl.add (t := 1) (hl.add (t := 4) (hl.add (t := 10) (hl.add (t := 12) (hl.add (t := 61) (hl.add (t := 62) (hl.add (t := 63) (hl.add (t := 98) (hl.nil) rfl) rfl) rfl) rfl) rfl) rfl) rfl) rfl) rfl; clear hl; have hl := hl2; clear hl2
            refine then_normal ?_
            refine c_cond hl rfl ?_ ?_
            · intro hc4
              try simp only [decide_eq_true_eq, decide_eq_false_iff_not, Bool.not_eq_true', Bool.not_eq_false', Bool.not_eq_true, Bool.not_eq_false, Bool.and_eq_true, Bool.or_eq_true, Bool.and_eq_false_iff, Bool.or_eq_false_iff, Bool.not_not, ne_eq, Int.not_lt, Int.not_le, Decidable.not_not, beq_iff_eq, bne_iff_ne] at hc4
              refine c_region ?_
              refine wl (wl_val hl rfl trivial (r_move hl rfl) ?_)
              clear hl a; intro a hl
              refine wl (wl_val hl rfl trivial (r_nilCheck hl rfl) ?_)
              clear hl a; intro a hl
              refine wl (wl_val hl rfl trivial (r_field hl rfl fld150_2) ?_)
              clear hl a; intro a hl
              refine wl (w_load hl hh rfl trivial one3 rfl (by repeat (first | exact find_head | apply find_tail | apply find_skip)) (by first | exact hS.cell hc hw | exact sh_waits hc hw | exact ld_net hil hth | exact ld_ms hil | exact tk_at hht | rfl) ?_)
              clear hl a; intro a hl
              try simp only [setNet_ms, setNet_self, hn1, hm1] at hl
              first | refine wl (wl_val hl rfl trivial (r_sub hl rfl rfl (by simp only [Fits]; omega)) ?_) | refine wl (wl_val hl rfl trivial (r_subW hl rfl rfl) ?_)
              clear hl a; intro a hl
              refine wl (wl_val hl rfl trivial (r_nilCheck hl rfl) ?_)
              clear hl a; intro a hl
              refine wl (wl_val hl rfl trivial (r_field hl rfl fld150_2) ?_)
              clear hl a; intro a hl
              refine wl (w_store hl hh trivial one3 rfl rfl (by repeat (first | exact find_head | apply find_tail | apply find_skip)) (by first | (simp; done) | (simp; omega) | (rw [arrL_length]; omega) | (rw [hLs]; omega)) (by first | rfl | assumption | (apply Row.one; assumption)) (by first | exact set_waits hc hw | exact st_net hil hth | exact st_ms hil | (simp only [setL, List.getElem?_cons_zero, List.getElem?_cons_succ, Value.cells, List.take_zero, List.take_succ_cons, List.take_nil, List.drop_zero, List.drop_succ_cons, List.drop_nil, List.length_cons, List.length_nil, List.cons_append, List.nil_append, List.append_nil, Nat.zero_add, Nat.add_zero, Nat.reduceAdd, Nat.reduceBEq, Nat.reduceEqDiff, Nat.ble, BEq.rfl, Bool.and_true, Bool.and_self, cond_true, beq_self_eq_true]; rfl)) ?_)
              clear hh w; intro w hh
              refine w_nil ?_
              have hl2 := hl.add (t := 0) (hl.add (t := 1) (hl.add (t := 4) (hl.add (t := 10) (hl.add (t := 12) (hl.add (t := 61) (hl.add (t := 62) (hl.add (t := 63) (hl.nil) rfl) rfl) rfl) rfl) rfl) rfl) rfl) rfl; clear hl; have hl := hl2; clear hl2
              refine blk_normal ?_
              refine then_normal ?_
              refine c_region ?_
              first | refine wl (wl_val hl rfl trivial (r_add hl rfl rfl (by simp only [Fits]; omega)) ?_) | refine wl (wl_val hl rfl trivial (r_addW hl rfl rfl) ?_)
              clear hl a; intro a hl
              refine wl (wl_val hl rfl trivial (r_move hl rfl) ?_)
              clear hl a; intro a hl
              refine w_nil ?_
              have hl2 := hl.add (t := 0) (hl.add (t := 1) (hl.add (t := 4) (hl.add (t := 10) (hl.add (t := 12) (hl.add (t := 61) (hl.add (t := 62) (hl.add (t := 63) (hl.nil) rfl) rfl) rfl) rfl) rfl) rfl) rfl) rfl; clear hl; have hl := hl2; clear hl2
              refine then_normal ?_
              subst hy1
              refine ⟨(j + 1), (by omega), (by omega), hl.addE (t := 63) (hl.addE (t := 0) (hl.addE (t := 1) (hl.addE (t := 4) (hl.addE (t := 10) (hl.addE (t := 12) (hl.addE (t := 61) (hl.addE (t := 62) (hl.nil) rfl (by first | rfl | (congr 1; omega))) rfl (by first | rfl | (congr 1; omega))) rfl (by first | rfl | (congr 1; omega))) rfl (by first | rfl | (congr 1; omega))) rfl (by first | rfl | (congr 1; omega))) rfl (by first | rfl | (congr 1; omega))) rfl (by first | rfl | (congr 1; omega))) rfl (by first | rfl | (congr 1; omega)), hh.keep (by repeat (first | exact keeps_nil | apply keeps_cons (by repeat (first | exact find_head | apply find_tail | apply find_skip)) (by first  | exact adj_oTT hht hyy (by assumption) (by assumption) | exact adj_oTF hht hyy (by assumption) (by assumption) | exact adj_oFT hht hyy (by assumption) (by assumption) | exact adj_oFF hht hyy (by assumption) (by assumption) | rfl) | exact keeps_self | exact keeps_left | apply keeps_app | apply keeps_mv | apply keeps_skip))⟩
            · intro hc4
              try simp only [decide_eq_true_eq, decide_eq_false_iff_not, Bool.not_eq_true', Bool.not_eq_false', Bool.not_eq_true, Bool.not_eq_false, Bool.and_eq_true, Bool.or_eq_true, Bool.and_eq_false_iff, Bool.or_eq_false_iff, Bool.not_not, ne_eq, Int.not_lt, Int.not_le, Decidable.not_not, beq_iff_eq, bne_iff_ne] at hc4
              refine wp_skip ?_
              refine blk_normal ?_
              refine then_normal ?_
              refine c_region ?_
              first | refine wl (wl_val hl rfl trivial (r_add hl rfl rfl (by simp only [Fits]; omega)) ?_) | refine wl (wl_val hl rfl trivial (r_addW hl rfl rfl) ?_)
              clear hl a; intro a hl
              refine wl (wl_val hl rfl trivial (r_move hl rfl) ?_)
              clear hl a; intro a hl
              refine w_nil ?_
              have hl2 := hl.add (t := 0) (hl.add (t := 1) (hl.add (t := 4) (hl.add (t := 10) (hl.add (t := 12) (hl.add (t := 61) (hl.add (t := 62) (hl.add (t := 63) (hl.nil) rfl) rfl) rfl) rfl) rfl) rfl) rfl) rfl; clear hl; have hl := hl2; clear hl2
              refine then_normal ?_
              subst hy1
              refine ⟨(j + 1), (by omega), (by omega), hl.addE (t := 63) (hl.addE (t := 0) (hl.addE (t := 1) (hl.addE (t := 4) (hl.addE (t := 10) (hl.addE (t := 12) (hl.addE (t := 61) (hl.addE (t := 62) (hl.nil) rfl (by first | rfl | (congr 1; omega))) rfl (by first | rfl | (congr 1; omega))) rfl (by first | rfl | (congr 1; omega))) rfl (by first | rfl | (congr 1; omega))) rfl (by first | rfl | (congr 1; omega))) rfl (by first | rfl | (congr 1; omega))) rfl (by first | rfl | (congr 1; omega))) rfl (by first | rfl | (congr 1; omega)), hh.keep (by repeat (first | exact keeps_nil | apply keeps_cons (by repeat (first | exact find_head | apply find_tail | apply find_skip)) (by first  | exact adj_oTT hht hyy (by assumption) (by assumption) | exact adj_oTF hht hyy (by assumption) (by assumption) | exact adj_oFT hht hyy (by assumption) (by assumption) | exact adj_oFF hht hyy (by assumption) (by assumption) | rfl) | exact keeps_self | exact keeps_left | apply keeps_app | apply keeps_mv | apply keeps_skip))⟩
        · intro hc2
          try simp only [decide_eq_true_eq, decide_eq_false_iff_not, Bool.not_eq_true', Bool.not_eq_false', Bool.not_eq_true, Bool.not_eq_false, Bool.and_eq_true, Bool.or_eq_true, Bool.and_eq_false_iff, Bool.or_eq_false_iff, Bool.not_not, ne_eq, Int.not_lt, Int.not_le, Decidable.not_not, beq_iff_eq, bne_iff_ne] at hc2
          have hjt9 : j = ts.length := by omega
          rw [hjt9, List.take_length] at hh
          refine wp_exit ?_
          refine then_exit ?_
          refine then_exit ?_
          refine blk_exit ?_
          refine then_normal ?_
          refine c_seq ?_
          refine c_region ?_
          refine wl (wl_val hl rfl trivial (r_move hl rfl) ?_)
          clear hl a; intro a hl
          refine wl (wl_val hl rfl trivial (r_nilCheck hl rfl) ?_)
          clear hl a; intro a hl
          refine wl (wl_val hl rfl trivial (r_field hl rfl fld150_2) ?_)
          clear hl a; intro a hl
          refine wl (w_load hl hh rfl trivial one3 rfl (by repeat (first | exact find_head | apply find_tail | apply find_skip)) (by first | exact hS.cell hc hw | exact sh_waits hc hw | exact ld_net hil hth | exact ld_ms hil | exact tk_at hht | rfl) ?_)
          clear hl a; intro a hl
          refine wl (wl_val hl rfl trivial (r_eql hl rfl rfl) ?_)
          clear hl a; intro a hl
          refine w_nil ?_
          have hl2 := hl.add (t := 0) (hl.add (t := 1) (hl.add (t := 10) (hl.add (t := 111) (hl.nil) rfl) rfl) rfl) rfl; clear hl; have hl := hl2; clear hl2
          refine then_normal ?_
          refine c_cond hl rfl ?_ ?_
          · intro hc5
            try simp only [decide_eq_true_eq, decide_eq_false_iff_not, Bool.not_eq_true', Bool.not_eq_false', Bool.not_eq_true, Bool.not_eq_false, Bool.and_eq_true, Bool.or_eq_true, Bool.and_eq_false_iff, Bool.or_eq_false_iff, Bool.not_not, ne_eq, Int.not_lt, Int.not_le, Decidable.not_not, beq_iff_eq, bne_iff_ne] at hc5
            refine c_draw [(bg, C (arrL 146 f1) 94)] [14, 15] mixed hh ?_
            clear hh w; intro w hh
            have hM : Mem [(bg, C (arrL 146 f1) 94)] w := (memK hh (by repeat (first | exact keeps_nil | apply keeps_cons (by repeat (first | exact find_head | apply find_tail | apply find_skip)) (by first  | rfl) | exact keeps_self | exact keeps_left | apply keeps_app | apply keeps_mv | apply keeps_skip)))
            refine d_take (i := 0) hl rfl (by kernel_rfl) (by kernel_rfl) (by kernel_rfl) (by kernel_rfl) (by kernel_rfl) rfl trivial (fun _ _ _ h => h) hM (fun w hC => r_move hl rfl) rfl ?_
            clear hl a; intro a hl
            refine d_take (i := 1) hl rfl (by kernel_rfl) (by kernel_rfl) (by kernel_rfl) (by kernel_rfl) (by kernel_rfl) rfl trivial (fun _ _ _ h => h) hM (fun w hC => r_move hl rfl) rfl ?_
            clear hl a; intro a hl
            refine d_take (i := 2) hl rfl (by kernel_rfl) (by kernel_rfl) (by kernel_rfl) (by kernel_rfl) (by kernel_rfl) rfl trivial (fun _ _ _ h => h) hM (fun w hC => r_move hl rfl) rfl ?_
            clear hl a; intro a hl
            refine d_take (i := 3) hl rfl (by kernel_rfl) (by kernel_rfl) (by kernel_rfl) (by kernel_rfl) (by kernel_rfl) rfl trivial (fun _ _ _ h => h) hM (fun w hC => r_move hl rfl) rfl ?_
            clear hl a; intro a hl
            refine d_take (i := 4) hl rfl (by kernel_rfl) (by kernel_rfl) (by kernel_rfl) (by kernel_rfl) (by kernel_rfl) rfl trivial (fun _ _ _ h => h) hM (fun w hC => r_nilCheck hl rfl) rfl ?_
            clear hl a; intro a hl
            refine d_take (i := 5) hl rfl (by kernel_rfl) (by kernel_rfl) (by kernel_rfl) (by kernel_rfl) (by kernel_rfl) rfl trivial (fun _ _ _ h => h) hM (fun w hC => r_field hl rfl fld91_1) rfl ?_
            clear hl a; intro a hl
            refine d_take (i := 6) hl rfl (by kernel_rfl) (by kernel_rfl) (by kernel_rfl) (by kernel_rfl) (by kernel_rfl) rfl trivial (fun _ _ _ h => h) hM (fun w hC => r_indexA hl rfl rfl arr89 (by omega) (by omega) (by first | (simp only [Int.reduceToNat]; rfl) | exact toNat_add1 _ | exact toNat_add2 _ _ | exact toNat_emod _ _ | exact Int.toNat_natCast _ | rfl)) rfl ?_
            clear hl a; intro a hl
            refine d_take (i := 7) hl rfl (by kernel_rfl) (by kernel_rfl) (by kernel_rfl) (by kernel_rfl) (by kernel_rfl) rfl trivial (fun _ _ _ h => h) hM (fun w hC => r_loadC hl rfl one88 hC (by repeat (first | exact find_head | apply find_tail | apply find_skip)) (by first | exact hS.cell hc hw | exact sh_waits hc hw | exact ld_net hil hth | exact ld_ms hil | exact tk_at hht | rfl)) rfl ?_
            clear hl a; intro a hl
            rw [hv1] at hl
            refine d_take (i := 8) hl rfl (by kernel_rfl) (by kernel_rfl) (by kernel_rfl) (by kernel_rfl) (by kernel_rfl) rfl trivial (fun _ _ _ h => h) hM (fun w hC => r_move hl rfl) rfl ?_
            clear hl a; intro a hl
            refine d_take (i := 9) hl rfl (by kernel_rfl) (by kernel_rfl) (by kernel_rfl) (by kernel_rfl) (by kernel_rfl) rfl trivial (fun _ _ _ h => h) hM (fun w hC => r_move hl rfl) rfl ?_
            clear hl a; intro a hl
            first | refine d_take (i := 10) hl rfl (by kernel_rfl) (by kernel_rfl) (by kernel_rfl) (by kernel_rfl) (by kernel_rfl) rfl trivial (fun _ _ _ h => h) hM (fun w hC => r_add hl rfl rfl (by simp only [Fits]; omega)) rfl ?_ | refine d_take (i := 10) hl rfl (by kernel_rfl) (by kernel_rfl) (by kernel_rfl) (by kernel_rfl) (by kernel_rfl) rfl trivial (fun _ _ _ h => h) hM (fun w hC => r_addW hl rfl rfl) rfl ?_
            clear hl a; intro a hl
            rw [show ((i : Int) + 1) = ((i + 1 : Nat) : Int) by omega] at hl
            refine d_take (i := 12) hl rfl (by kernel_rfl) (by kernel_rfl) (by kernel_rfl) (by kernel_rfl) (by kernel_rfl) rfl trivial (fun _ _ _ h => h) hM (fun w hC => r_nilCheck hl rfl) rfl ?_
            clear hl a; intro a hl
            refine d_take (i := 13) hl rfl (by kernel_rfl) (by kernel_rfl) (by kernel_rfl) (by kernel_rfl) (by kernel_rfl) rfl trivial (fun _ _ _ h => h) hM (fun w hC => r_field hl rfl fld91_1) rfl ?_
            clear hl a; intro a hl
            refine d_one (i := 11) (by kernel_rfl) rfl ?_
            try clear hM
            refine id (w_call hl hh rfl trivial rfl cal70 rfl (delWn (l1.set i (bump d x ts)) l1.length (by rw [List.length_set]) (some ⟨b1, 0, none⟩) cp1 _ (.inr ⟨b1, cp1, junk1, by rw [List.length_set], fl_len wtc_len _, hLs _, by rw [List.length_set]; exact hjc1, rfl⟩) (by rw [List.length_set]; omega) i (i + 1) (by omega) (by rw [List.length_set]; omega)) (by repeat (first | exact keeps_nil | apply keeps_cons (by repeat (first | exact find_head | apply find_tail | apply find_skip)) (by first  | rfl) | exact keeps_self | exact keeps_left | apply keeps_app | apply keeps_mv | apply keeps_skip)) trivial ?_)
            clear hl hh a w; intro vc Fc a w hR hl hh
            try simp only [List.cons_append, List.nil_append, List.append_assoc, List.append_nil] at hh
            have hRd2 := hR
            clear hR
            generalize Fc = Ed2 at hh hRd2
            generalize vc = vd2 at hl hRd2
            have hM : Mem [(bg, C (arrL 146 f1) 94)] w := (memK hh (by repeat (first | exact keeps_nil | apply keeps_cons (by repeat (first | exact find_head | apply find_tail | apply find_skip)) (by first  | rfl) | exact keeps_self | exact keeps_left | apply keeps_app | apply keeps_mv | apply keeps_skip)))
            refine d_step (fun _ => hM) ?_
            refine d_takeL (i := 14) hl rfl (by kernel_rfl) (by kernel_rfl) (by kernel_rfl) (by kernel_rfl) (by kernel_rfl) rfl trivial (fun _ _ _ h => h) (fun w => r_indexA hl rfl rfl arr89 (by omega) (by omega) (by first | (simp only [Int.reduceToNat]; rfl) | exact toNat_add1 _ | exact toNat_add2 _ _ | exact toNat_emod _ _ | exact Int.toNat_natCast _ | rfl)) rfl ?_
            clear hl a; intro a hl
            refine d_one (i := 15) (by kernel_rfl) rfl ?_
            try clear hM
            refine id (w_store hl hh trivial one88 rfl rfl (by repeat (first | exact find_head | apply find_tail | apply find_skip)) (by first | (simp; done) | (simp; omega) | (rw [arrL_length]; omega) | (rw [hLs]; omega)) (by first | rfl | assumption | (apply Row.one; assumption)) (by first | exact set_waits hc hw | exact st_net hil hth | exact st_ms hil | (simp only [setL, List.getElem?_cons_zero, List.getElem?_cons_succ, Value.cells, List.take_zero, List.take_succ_cons, List.take_nil, List.drop_zero, List.drop_succ_cons, List.drop_nil, List.length_cons, List.length_nil, List.cons_append, List.nil_append, List.append_nil, Nat.zero_add, Nat.add_zero, Nat.reduceAdd, Nat.reduceBEq, Nat.reduceEqDiff, Nat.ble, BEq.rfl, Bool.and_true, Bool.and_self, cond_true, beq_self_eq_true]; rfl)) ?_)
            clear hh w; intro w hh
            refine d_step (fun h => absurd h (by decide)) ?_
            refine d_done (by kernel_rfl) ?_
            try clear hM
            have hl2 := hl.nil; clear hl; have hl := hl2; clear hl2
            rw [ms_cut hA hi hk hts (by assumption)] at hRd2
            have hh2 := hh.keep (F' := ((bg, C (arrL 146 (updV f1 (34 + 32 * c + q) vd2)) 94) :: Ed2)) (by repeat (first | exact keeps_nil | apply keeps_cons (by repeat (first | exact find_head | apply find_tail | apply find_skip)) (by first  | rfl) | exact keeps_self | exact keeps_left | apply keeps_app | apply keeps_mv | apply keeps_skip))
            clear hh
            obtain ⟨f2, E2_, hh, hS2, hfr2⟩ : ∃ f2 E2, Has (List.map Prod.fst ((bg, C (arrL 146 f) 94) :: E)) w0 ((bg, C (arrL 146 f2) 94) :: E2) w ∧ ShR f2 c q fz (adjL e s d l) E2 ∧ ∀ j, j ≠ 34 + 32 * c + q → True → f2 j = f j := ⟨_, _, hh2, ⟨by rw [updV_ne _ _ (by omega)]; exact hS1.flr, by rw [updV_self]; exact hRd2⟩, fun j hj _ => by rw [updV_ne _ _ hj]; exact hfr j hj⟩
            clear hh2
            refine f_end0 (F' := ((bg, C (arrL 146 f2) 94) :: E2_)) hl hh rfl (by repeat (first | exact keeps_nil | apply keeps_cons (by repeat (first | exact find_head | apply find_tail | apply find_skip)) (by first  | rfl) | exact keeps_self | exact keeps_left | apply keeps_app | apply keeps_mv | apply keeps_skip)) ?_
            exact ⟨rfl, f2, E2_, rfl, hS2, hfr2⟩
          · intro hc5
            try simp only [decide_eq_true_eq, decide_eq_false_iff_not, Bool.not_eq_true', Bool.not_eq_false', Bool.not_eq_true, Bool.not_eq_false, Bool.and_eq_true, Bool.or_eq_true, Bool.and_eq_false_iff, Bool.or_eq_false_iff, Bool.not_not, ne_eq, Int.not_lt, Int.not_le, Decidable.not_not, beq_iff_eq, bne_iff_ne] at hc5
            have hh2 := hh.keep (F' := ((bg, C (arrL 146 f1) 94) :: [(b1, C (fl wtc (l1.set i (bump d x ts)) ++ junk1) 150)])) (by repeat (first | exact keeps_nil | apply keeps_cons (by repeat (first | exact find_head | apply find_tail | apply find_skip)) (by first  | rfl) | exact keeps_self | exact keeps_left | apply keeps_app | apply keeps_mv | apply keeps_skip))
            clear hh
            obtain ⟨f2, E2_, hh, hS2, hfr2⟩ : ∃ f2 E2, Has (List.map Prod.fst ((bg, C (arrL 146 f) 94) :: E)) w0 ((bg, C (arrL 146 f2) 94) :: E2) w ∧ ShR f2 c q fz (adjL e s d l) E2 ∧ ∀ j, j ≠ 34 + 32 * c + q → True → f2 j = f j := ⟨f1, _, hh2, ⟨hS1.flr, by rw [← ms_set hA hi hk hts (by assumption), hv1]; exact .inr ⟨b1, cp1, junk1, by rw [List.length_set], fl_len wtc_len _, hLs _, by rw [List.length_set]; exact hjc1, rfl⟩⟩, fun j hj _ => hfr j hj⟩
            clear hh2
            refine wp_skip ?_
            refine f_end0 (F' := ((bg, C (arrL 146 f2) 94) :: E2_)) hl hh rfl (by repeat (first | exact keeps_nil | apply keeps_cons (by repeat (first | exact find_head | apply find_tail | apply find_skip)) (by first  | rfl) | exact keeps_self | exact keeps_left | apply keeps_app | apply keeps_mv | apply keeps_skip)) ?_
            exact ⟨rfl, f2, E2_, rfl, hS2, hfr2⟩
end Go.Proofs.Qxb6500911aGreatDoor

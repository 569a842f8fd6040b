import Derived.Test.Qxb6500913aR6
namespace Go.Proofs.Qxb6500913a
open Go.Eng
set_option linter.unusedVariables false
set_option linter.unusedSimpArgs false

attribute [local irreducible] encL

/-- the place of a class among the waiting -/
structure Slot (fl : Nat → List Nat) (ws : List WE) (c : Nat) (A B : List WE) (w : WE) : Prop where
  key : w.c = c
  row : Row w.v w.xs.length (w.xs.map u32v) 1 34 w.E
  list : fl c = w.xs.reverse
  get : (mget (ws.map WE.kv) (keyC c)).getD (.slice none 0 0) = w.v
  put : ∀ w' : WE, w'.c = c → mput (ws.map WE.kv) (keyC c) w'.v = (A ++ w' :: B).map WE.kv
  blocks : ws.flatMap WE.E = A.flatMap WE.E ++ (w.E ++ B.flatMap WE.E)
  sum : fsum ws = fsum A + keyC c * (w.xs.length : Int) + fsum B
  next : ∀ (fl' : Nat → List Nat) (w' : WE), w'.c = c → Row w'.v w'.xs.length (w'.xs.map u32v) 1 34 w'.E → fl' c = w'.xs.reverse → (∀ d, d ≠ c → fl' d = fl d) → WsOk fl' (A ++ w' :: B)
theorem WsOk.slot {fl : Nat → List Nat} {ws : List WE} (h : WsOk fl ws) (c : Nat) (hc : c < 16) : ∃ A B w, Slot fl ws c A B w := by
  by_cases q : ∃ w, w ∈ ws ∧ w.c = c
  · obtain ⟨w, hw, rfl⟩ := q
    obtain ⟨A, B, rfl, hA, hB⟩ := h.split hw
    obtain ⟨_, r2, r3⟩ := h.row w hw
    exact ⟨A, B, w, rfl, r2, r3, by rw [mget_kv hA]; rfl, fun w' hw' => mput_kv hw' hA, by rw [List.flatMap_append, List.flatMap_cons], by rw [fsum_app]; show fsum A + (keyC w.c * (w.xs.length : Int) + fsum B) = _; omega, fun fl' w' e1 e2 e3 e4 => h.replace hA hB e1 e2 e3 e4⟩
  · have hn : ∀ w, w ∈ ws → w.c ≠ c := fun w hw e => q ⟨w, hw, e⟩
    have hf : fl c = [] := by
      by_cases e : fl c = []
      · exact e
      · exact absurd (h.all c hc e) q
    refine ⟨ws, [], ⟨c, .slice none 0 0, [], []⟩, rfl, Row.nil _ _, hf, by rw [mget_kv_none hn]; rfl, fun w' hw' => ?_, by simp, by show fsum ws = fsum ws + keyC c * ((0 : Nat) : Int) + 0; simp, fun fl' w' e1 e2 e3 e4 => ?_⟩
    · subst hw'; exact mput_kv_new hn
    · subst e1; exact h.add hn hc e2 e3 e4
theorem perm_slot (M a e b : List (Nat × Obj)) : (M ++ (a ++ (e ++ b))).Perm ((M ++ e) ++ (a ++ b)) := by
  rw [List.append_assoc]
  exact List.Perm.append_left M (List.perm_append_comm_assoc a e b)
theorem row_empty {v : Value} {e : TypeId} {E : List (Nat × Obj)} (h : Row v 0 [] 1 e E) : ∃ p cap, v = .slice p 0 cap := by
  rcases h with ⟨h1, _⟩ | ⟨b, cap, junk, h1, _⟩
  · exact ⟨none, 0, h1⟩
  · exact ⟨_, _, h1⟩
theorem keyC_half {s : Nat} (h1 : 2 ≤ s) (h2 : s % 2 = 0) : keyC (s / 2 - 1) = (s : Int) := by unfold keyC; omega
theorem Inv.fl_le {f : Nat → Int} {fl : Nat → List Nat} {k : Nat} (h : Inv f fl k) (c : Nat) (hc : c < 16) : (fl c).length ≤ 4096 := by
  have := nodup_le (m := List.range 4096) (h.nodup c hc) fun x hx => List.mem_range.2 (h.mem c hc x hx).1
  rw [List.length_range] at this; exact this
section
variable {mb wb rb zb fb qb k : Nat} {f : Nat → Int} {fl : Nat → List Nat} {W R Z Fd : List (Int × Value)} {ws : List WE}
theorem step_k5 (h : Inv f fl k) (M : RM f fl W R Z Fd ws) (x A B E D : Nat) (ho : (⟨5, x, A, B, E, D⟩ : MOp).ok) : Sp Try.prog 18 #[.pointer (some ⟨mb, 0, none⟩), (⟨5, x, A, B, E, D⟩ : MOp).v] (MFB mb wb rb zb fb qb f W R Z Fd ws) (StepR mb wb rb zb fb qb k f ⟨5, x, A, B, E, D⟩) := by
  have hd : doF f ⟨5, x, A, B, E, D⟩ = if 32 < A then ⟨⟨3, false, 0, 0⟩, f⟩ else ⟨⟨(allocF f A).st, false, (allocF f A).ref, 0⟩, (allocF f A).f⟩ := rfl
  by_cases c0 : A = 0 ∨ 32 < A
  · have hd2 : doF f ⟨5, x, A, B, E, D⟩ = ⟨⟨3, false, 0, 0⟩, f⟩ := by
      rw [hd]
      by_cases c : 32 < A
      · rw [if_pos c]
      · rw [if_neg c]; unfold allocF; rw [if_pos c0]
    exact same_step h M ho (by rw [hd2]) (by rw [hd2]; rfl) (step_allocB mb wb rb zb fb qb W R Z Fd _ _ _ _ x A B E D c0)
  obtain ⟨s, hs⟩ : ∃ s, (A + 1) / 2 * 2 = s := ⟨_, rfl⟩
  have s1 : 2 ≤ s := by omega
  have s2 : s ≤ 32 := by omega
  have s3 : s % 2 = 0 := by omega
  have hsA : A + A % 2 = s := by omega
  have hc16 : s / 2 - 1 < 16 := by omega
  rw [if_neg (by omega)] at hd
  have hdf : (doF f ⟨5, x, A, B, E, D⟩).f = (allocF f A).f := by rw [hd]
  obtain ⟨As, Bs, w, sl⟩ := M.wk.slot (s / 2 - 1) hc16
  have hget := sl.get
  have hput := sl.put
  have hsum := sl.sum
  rw [keyC_half s1 s3] at hget hput hsum
  obtain ⟨fe, hfe, hfe2, hfe4, _⟩ := h.fr
  rcases alloc_parts h A s (by omega) (by omega) hs with ⟨h0, hL, hSp, hw⟩ | ⟨h0, hr, hf, he, hno⟩
  · obtain ⟨_, _, y, fl', hI', e, href⟩ := h.allocOk A h0
    rw [hs] at e
    have hwords : ∀ i, i < 4096 → word (doF f ⟨5, x, A, B, E, D⟩).f i = word f i := fun i hi => by rw [hdf]; exact alloc_words h A i hi
    obtain ⟨g, hg⟩ : ∃ g : Nat, (gen f y).toNat + 1 = g := ⟨_, rfl⟩
    have g0 := e.g0
    have g1 := e.g1
    have gb := e.gb
    have hb := h.bootR
    have hxs := e.xs
    have hcl : ∀ i, i < s → 0 ≤ (fun c => gen f c - boot f) (y + i) ∧ (fun c => gen f c - boot f) (y + i) ≤ 281474976710655 := by
      intro i hi
      have := (e.cells (y + i) (by omega) (by omega)).1
      dsimp only
      omega
    have hgg : boot f + ((fun c => gen f c - boot f) y + 1) = (g : Int) := by dsimp only; omega
    have hans : Value.agg ⟨[.int .u8 0, .bool false, .int .u64 ((g * 65536 + y : Nat) : Int), .int .u64 0]⟩ = .agg ⟨(doF f ⟨5, x, A, B, E, D⟩).ans.l⟩ := by
      rw [hd]
      show _ = Value.agg ⟨[.int .u8 (allocF f A).st, .bool false, .int .u64 (allocF f A).ref, .int .u64 0]⟩
      rw [h0, href, hg]
    rcases e.which with ⟨hro, hfr, _, l, hfl, hfl'⟩ | ⟨hro, hgb, hfr, hfr', hfl', hfl0⟩
    · have hpop : cnFree (allocF f A).f = cnFree f - s ∧ cnUnt (allocF f A).f = cnUnt f := by
        rcases hw with ⟨_, q1, q2⟩ | ⟨q, _⟩
        · exact ⟨q1, q2⟩
        · rw [q] at hfl; cases hfl
      have hxs2 : w.xs = l.reverse ++ [y] := by
        have := sl.list
        rw [hfl] at this
        have := congrArg List.reverse this
        rw [List.reverse_reverse, List.reverse_cons] at this
        exact this.symm
      have hlen : w.xs.length = l.length + 1 := by rw [hxs2]; simp
      have hln := h.fl_le _ hc16
      rw [hfl] at hln
      simp only [List.length_cons] at hln
      rcases sl.row with ⟨_, q, _⟩ | ⟨lb, cap, junk, q1, q2, q3, q4, q5⟩
      · omega
      · rw [hlen] at q1
        have hlast : (w.xs.map u32v ++ junk)[l.length]? = some (.int .u32 (y : Int)) := by
          rw [List.getElem?_append_left (by rw [List.length_map, hlen]; omega), hxs2, List.map_append, List.getElem?_append_right (by simp)]
          simp [u32v]
        rw [q1] at hget
        have hst := step_allocP mb wb rb zb fb qb W R Z Fd _ (boot f) (fresh f) (cnSpent f) x A B E D s (by omega) (by omega) hsA (fun c => gen f c - boot f) M.rd y g hcl (by omega) hb.1 hgg (by omega) lb l.length cap (w.xs.map u32v ++ junk) hget (by omega) (by omega) hlast
        refine sp_post (sp_frame (F := MFB mb wb rb zb fb qb f W R Z Fd ws) (G := As.flatMap WE.E ++ Bs.flatMap WE.E) hst ?_) ?_
        · unfold MFB
          rw [sl.blocks, q5]
          exact perm_slot (mblk mb wb rb zb fb qb (boot f) (fresh f) (cnSpent f) W R Z Fd (ws.map WE.kv)) _ _ _
        · rintro v F' ⟨F2, ⟨R', hR', rfl, rfl⟩, rfl⟩
          let w' : WE := ⟨s / 2 - 1, .slice (some ⟨lb, 0, none⟩) l.length cap, l.reverse, w.E⟩
          have hrow' : Row w'.v w'.xs.length (w'.xs.map u32v) 1 34 w'.E := by
            refine .inr ⟨lb, cap, .int .u32 (y : Int) :: junk, by show Value.slice _ l.length cap = _; rw [show w'.xs.length = l.length from List.length_reverse], by simp, ?_, by rw [show w'.xs.length = l.length from List.length_reverse]; omega, ?_⟩
            · rw [← q3, hxs2]; simp [w', List.map_append]
            · show w.E = _
              rw [q5, hxs2]; simp [w', u32v]
          have hws' := sl.next fl' w' rfl hrow' (by rw [hfl']; simp [w']) (fun d hd => by rw [hfl']; exact if_neg hd)
          refine ⟨MFB mb wb rb zb fb qb (doF f ⟨5, x, A, B, E, D⟩).f W R' (mput Z ((g * 65536 + y : Nat) : Int) (.int .i64 (s : Int))) Fd (As ++ w' :: Bs), [], ⟨fl', W, R', _, Fd, _, by rw [hdf]; exact hI', ?_, hans, rfl⟩, ?_⟩
          · refine M.alloc (by rw [hdf]; exact e) (by rw [hg]) hwords hR' (fun _ => ?_) (by rw [hdf]; exact hL) hws' ?_ (by rw [hdf, hpop.2, hfr]; exact M.un)
            · have := (h.mem _ hc16 y (by rw [hfl]; exact List.mem_cons_self ..)).2.2
              omega
            · rw [fsum_app, hdf, hpop.1, ← M.free, hsum, hlen]
              show fsum As + (keyC (s / 2 - 1) * (l.reverse.length : Int) + fsum Bs) = _
              rw [keyC_half s1 s3, List.length_reverse]
              rw [show ((l.length + 1 : Nat) : Int) = (l.length : Int) + 1 by omega, Int.mul_add]
              omega
          · rw [List.append_nil]
            unfold MFB
            rw [hdf, e.bt, hfr, hSp, ← hput w' rfl, List.flatMap_append, List.flatMap_cons]
            show ((mblk mb wb rb zb fb qb (boot f) (fresh f) (cnSpent f) W R' (mput Z ((g * 65536 + y : Nat) : Int) (.int .i64 (s : Int))) Fd (mput (ws.map WE.kv) (s : Int) (.slice (some ⟨lb, 0, none⟩) l.length cap)) ++ [(lb, C (w.xs.map u32v ++ junk) 34)]) ++ (As.flatMap WE.E ++ Bs.flatMap WE.E)).Perm _
            rw [← q5]
            exact (perm_slot _ _ _ _).symm
    · have hcv : cnFree (allocF f A).f = cnFree f ∧ cnUnt (allocF f A).f = cnUnt f - s ∧ boot f < 281474976710655 := by
        rcases hw with ⟨q, _⟩ | ⟨_, q1, q2, q3⟩
        · exact absurd hfl0 q
        · exact ⟨q1, q2, q3⟩
      have hx0 : w.xs = [] := by
        have := sl.list
        rw [hfl0] at this
        exact List.reverse_eq_nil_iff.1 this.symm
      have hrw := sl.row
      rw [hx0] at hrw
      obtain ⟨p, cap, hpv⟩ := row_empty hrw
      rw [hpv] at hget
      have hst := step_allocC mb wb rb zb fb qb W R Z Fd _ (boot f) (fresh f) (cnSpent f) x A B E D s (by omega) (by omega) hsA p cap hget (fun c => gen f c - boot f) M.rd y g hcl (by omega) hb.1 hgg (by omega) hfr hcv.2.2
      refine sp_post (sp_frame (F := MFB mb wb rb zb fb qb f W R Z Fd ws) (G := ws.flatMap WE.E) hst (List.Perm.refl _)) ?_
      rintro v F' ⟨F2, ⟨R', hR', rfl, rfl⟩, rfl⟩
      refine ⟨MFB mb wb rb zb fb qb (doF f ⟨5, x, A, B, E, D⟩).f W R' (mput Z ((g * 65536 + y : Nat) : Int) (.int .i64 (s : Int))) Fd ws, [], ⟨fl', W, R', _, Fd, _, by rw [hdf]; exact hI', ?_, hans, rfl⟩, ?_⟩
      · refine M.alloc (by rw [hdf]; exact e) (by rw [hg]) hwords hR' (fun q => ?_) (by rw [hdf]; exact hL) (by rw [hfl']; exact M.wk) (by rw [hdf, hcv.1]; exact M.free) (by rw [hdf, hcv.2.1, hfr', M.un, hfr]; omega)
        rw [hro] at q
        rcases q with q | q | q <;> omega
      · rw [List.append_nil]
        unfold MFB
        rw [hdf, e.bt, hfr', hSp]
        exact List.Perm.refl _
  · have hd2 : doF f ⟨5, x, A, B, E, D⟩ = ⟨⟨4, false, 0, 0⟩, f⟩ := by rw [hd, h0, hr, hf]
    have hx0 : w.xs = [] := by
      have := sl.list
      rw [he] at this
      exact List.reverse_eq_nil_iff.1 this.symm
    have hrw := sl.row
    rw [hx0] at hrw
    obtain ⟨p, cap, hpv⟩ := row_empty hrw
    rw [hpv] at hget
    exact same_step h M ho (by rw [hd2]) (by rw [hd2]; rfl) (step_allocO mb wb rb zb fb qb W R Z Fd _ _ _ _ x A B E D s (by omega) (by omega) hsA p cap hget (by omega) (by omega) hno)
theorem step_k6 (h : Inv f fl k) (hk : k ≤ 1000000) (M : RM f fl W R Z Fd ws) (x A B E D : Nat) (ho : (⟨6, x, A, B, E, D⟩ : MOp).ok) : Sp Try.prog 18 #[.pointer (some ⟨mb, 0, none⟩), (⟨6, x, A, B, E, D⟩ : MOp).v] (MFB mb wb rb zb fb qb f W R Z Fd ws) (StepR mb wb rb zb fb qb k f ⟨6, x, A, B, E, D⟩) := by
  have hd : doF f ⟨6, x, A, B, E, D⟩ = ⟨⟨(freeF f A).st, false, 0, 0⟩, (freeF f A).f⟩ := rfl
  have hst0 := freeF_st0 f A
  by_cases j5 : judgeF f A = 5
  · have hf := freeF_no f A (by rw [j5]; decide)
    exact same_step h M ho (by rw [hd, hf]) (by rw [hd, hst0, j5]; rfl) (step_freeB mb wb rb zb fb qb W R Z Fd _ _ _ _ x A B E D (by rw [M.zs A, if_pos j5]))
  obtain ⟨h4, hhd⟩ := judge_head j5
  obtain ⟨s, hsz⟩ : ∃ s : Nat, sz f (A % 65536) = s := ⟨(sz f (A % 65536)).toNat, by have := (h.szs _ h4).1; omega⟩
  have hz : mget Z (A : Int) = some (.int .i64 (s : Int)) := by rw [M.zs A, if_neg j5, hsz]
  by_cases j6 : judgeF f A = 6
  · have hf := freeF_no f A (by rw [j6]; decide)
    exact same_step h M ho (by rw [hd, hf]) (by rw [hd, hst0, j6]; rfl) (step_freeD mb wb rb zb fb qb W R Z Fd _ _ _ _ x A B E D s hz (by rw [M.fd A, j6]; rfl))
  have j0 : judgeF f A = 0 := by rcases judge_cases f A with q | q | q; exact q; exact absurd q j5; exact absurd q j6
  have hdf : (doF f ⟨6, x, A, B, E, D⟩).f = (freeF f A).f := rfl
  obtain ⟨hst, s', fl', hI', e⟩ := h.freeOk A j0
  have es : s' = s := by have := e.size; omega
  subst es
  obtain ⟨l1, l2, l3⟩ := judge_live j0
  obtain ⟨pL, pU, pS, pF⟩ := free_parts h A s' j0 hsz
  have hfd : (mget Fd (A : Int)).getD (.bool false) = .bool false := by rw [M.fd A, j0]; rfl
  have s1 := e.s1
  have s2 := e.s2
  have s3 := e.s3
  have hc16 : s' / 2 - 1 < 16 := by omega
  have hwords : ∀ i, i < 4096 → word (doF f ⟨6, x, A, B, E, D⟩).f i = word f i := fun i hi => by rw [hdf]; exact free_words h A i hi
  have hans : Value.agg ⟨[.int .u8 0, .bool false, .int .u64 0, .int .u64 0]⟩ = .agg ⟨(doF f ⟨6, x, A, B, E, D⟩).ans.l⟩ := by rw [hd, hst]; rfl
  by_cases gm : gen f (A % 65536) = 281474976710655
  · rw [if_pos gm] at pS pF
    have hfl' := e.fls
    rw [if_pos gm] at hfl'
    have hcn := h.cn3
    have hstp := step_freeS mb wb rb zb fb qb W R Z Fd (ws.map WE.kv) (boot f) (fresh f) (cnSpent f) x A B E D s' hz hfd s2 (by omega) (by omega)
    refine sp_post (sp_frame (F := MFB mb wb rb zb fb qb f W R Z Fd ws) (G := ws.flatMap WE.E) hstp (List.Perm.refl _)) ?_
    rintro v F' ⟨F2, ⟨rfl, rfl⟩, rfl⟩
    refine ⟨MFB mb wb rb zb fb qb (doF f ⟨6, x, A, B, E, D⟩).f W R Z (mput Fd (A : Int) (.bool true)) ws, [], ⟨fl', W, R, Z, _, ws, by rw [hdf]; exact hI', ?_, hans, rfl⟩, ?_⟩
    · exact M.freed j0 (by rw [hdf]; exact e) hwords (by rw [hdf]; exact pL) (by rw [hfl']; exact M.wk) (by rw [hdf, pF, M.free]; omega) (by rw [hdf, pU, e.frs]; exact M.un)
    · rw [List.append_nil]
      unfold MFB
      rw [hdf, e.bt, e.frs, pS]
      exact List.Perm.refl _
  · rw [if_neg gm] at pS pF
    have hfl' := e.fls
    rw [if_neg gm] at hfl'
    obtain ⟨As, Bs, w, sl⟩ := M.wk.slot (s' / 2 - 1) hc16
    have hget := sl.get
    have hput := sl.put
    have hsum := sl.sum
    rw [keyC_half s1 s3] at hget hput hsum
    have hln := h.fl_le _ hc16
    rw [sl.list, List.length_reverse] at hln
    have hstp := step_freeW mb wb rb zb fb qb W R Z Fd (ws.map WE.kv) (boot f) (fresh f) (cnSpent f) x A B E D s' hz hfd s2 (by omega) w.v w.xs.length (w.xs.map u32v) w.E sl.row (by omega) hget
    refine sp_post (sp_frame (F := MFB mb wb rb zb fb qb f W R Z Fd ws) (G := As.flatMap WE.E ++ Bs.flatMap WE.E) hstp ?_) ?_
    · unfold MFB
      rw [sl.blocks]
      exact perm_slot (mblk mb wb rb zb fb qb (boot f) (fresh f) (cnSpent f) W R Z Fd (ws.map WE.kv)) _ _ _
    · rintro v F' ⟨F2, ⟨rv2, E2, hR2, rfl, rfl⟩, rfl⟩
      let w' : WE := ⟨s' / 2 - 1, rv2, w.xs ++ [A % 65536], E2⟩
      have hrow' : Row w'.v w'.xs.length (w'.xs.map u32v) 1 34 w'.E := by
        show Row rv2 (w.xs ++ [A % 65536]).length ((w.xs ++ [A % 65536]).map u32v) 1 34 E2
        rw [List.length_append, List.map_append]; exact hR2
      have hws' := sl.next fl' w' rfl hrow' (by rw [hfl']; dsimp only; rw [if_pos rfl, sl.list]; simp [w']) (fun d hd => by rw [hfl']; exact if_neg hd)
      refine ⟨MFB mb wb rb zb fb qb (doF f ⟨6, x, A, B, E, D⟩).f W R Z (mput Fd (A : Int) (.bool true)) (As ++ w' :: Bs), [], ⟨fl', W, R, Z, _, _, by rw [hdf]; exact hI', ?_, hans, rfl⟩, ?_⟩
      · refine M.freed j0 (by rw [hdf]; exact e) hwords (by rw [hdf]; exact pL) hws' ?_ (by rw [hdf, pU, e.frs]; exact M.un)
        rw [fsum_app, hdf, pF, ← M.free, hsum]
        show fsum As + (keyC (s' / 2 - 1) * ((w.xs ++ [A % 65536]).length : Int) + fsum Bs) = _
        rw [keyC_half s1 s3, List.length_append]
        rw [show ((w.xs.length + [A % 65536].length : Nat) : Int) = (w.xs.length : Int) + 1 by simp, Int.mul_add]
        omega
      · rw [List.append_nil]
        unfold MFB
        rw [hdf, e.bt, e.frs, pS, Int.add_zero, ← hput w' rfl, List.flatMap_append, List.flatMap_cons]
        exact (perm_slot (mblk mb wb rb zb fb qb (boot f) (fresh f) (cnSpent f) W R Z (mput Fd (A : Int) (.bool true)) (mput (ws.map WE.kv) (s' : Int) rv2)) (As.flatMap WE.E) E2 (Bs.flatMap WE.E)).symm
theorem step_spec (h : Inv f fl k) (hk : k ≤ 1000000) (M : RM f fl W R Z Fd ws) (o : MOp) (ho : o.ok) : Sp Try.prog 18 #[.pointer (some ⟨mb, 0, none⟩), o.v] (MFB mb wb rb zb fb qb f W R Z Fd ws) (StepR mb wb rb zb fb qb k f o) := by
  obtain ⟨kd, x, A, B, E, D⟩ := o
  have hc : kd = 0 ∨ kd = 1 ∨ kd = 2 ∨ kd = 3 ∨ kd = 4 ∨ kd = 5 ∨ kd = 6 ∨ 7 ≤ kd := by omega
  rcases hc with rfl | rfl | rfl | rfl | rfl | rfl | rfl | h7
  · exact step_k0 h M x A B E D ho
  · exact step_k1 h M x A B E D ho
  · exact step_k2 h M x A B E D ho
  · exact step_k3 h M x A B E D ho
  · exact step_k4 h M x A B E D ho
  · exact step_k5 h M x A B E D ho
  · exact step_k6 h hk M x A B E D ho
  · exact step_k7 h M kd x A B E D h7 ho
end

end Go.Proofs.Qxb6500913a

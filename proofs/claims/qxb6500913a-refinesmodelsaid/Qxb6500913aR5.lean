import Derived.Test.Qxb6500913aR4
namespace Go.Proofs.Qxb6500913a
open Go.Eng
set_option linter.unusedVariables false
set_option linter.unusedSimpArgs false

theorem ref_parts {g x r0 : Nat} (hx : x < 4096) (h : r0 = (g + 1) * 65536 + x) : r0 % 65536 = x ∧ r0 / 65536 = g + 1 := by omega
theorem alloc_parts {f : Nat → Int} {fl : Nat → List Nat} {k : Nat} (h : Inv f fl k) (n s : Nat) (hn1 : 1 ≤ n) (hn2 : n ≤ 32) (hs : (n + 1) / 2 * 2 = s) :
    ((allocF f n).st = 0 ∧ cnLive (allocF f n).f = cnLive f + s ∧ cnSpent (allocF f n).f = cnSpent f ∧ ((fl (s / 2 - 1) ≠ [] ∧ cnFree (allocF f n).f = cnFree f - s ∧ cnUnt (allocF f n).f = cnUnt f) ∨ (fl (s / 2 - 1) = [] ∧ cnFree (allocF f n).f = cnFree f ∧ cnUnt (allocF f n).f = cnUnt f - s ∧ boot f < 281474976710655))) ∨
    ((allocF f n).st = 4 ∧ (allocF f n).ref = 0 ∧ (allocF f n).f = f ∧ fl (s / 2 - 1) = [] ∧ ¬ (fresh f + s ≤ 4096 ∧ boot f < 281474976710655)) := by
  unfold allocF
  rw [if_neg (by omega)]
  simp only [hs]
  have hch := h.chain (s / 2 - 1) (by omega)
  by_cases c2 : lst f (s / 2 - 1) ≠ 0
  · rw [if_pos c2]
    cases hfl : fl (s / 2 - 1) with
    | nil => rw [hfl] at hch; exact absurd hch c2
    | cons y l =>
      rw [hfl] at hch
      have hx := hch.1
      rw [hx]
      obtain ⟨m1, _⟩ := h.pop (by omega) (by omega) (by omega) hx (by omega)
      exact .inl ⟨rfl, cnLive_A1 f y s m1 (by omega), cnSpent_A1 f y s m1 (by omega), .inl ⟨by simp, cnFree_A1 f y s m1 (by omega), cnUnt_A1 f y s m1 (by omega)⟩⟩
  rw [if_neg c2]
  have hfl0 : fl (s / 2 - 1) = [] := by
    cases hfl : fl (s / 2 - 1) with
    | nil => rfl
    | cons y l => rw [hfl] at hch; have := hch.1; have := hch.2.1; omega
  by_cases c3 : fresh f + s ≤ 4096 ∧ boot f < 281474976710655
  · rw [if_pos c3]
    obtain ⟨x, hx, _⟩ := h.fr
    rw [hx]
    have m1 : x < 4096 := by omega
    exact .inl ⟨rfl, cnLive_A2 f x s m1 (by omega), cnSpent_A2 f x s m1 (by omega), .inr ⟨hfl0, cnFree_A2 f x s m1 (by omega), cnUnt_A2 f x s m1 (by omega), c3.2⟩⟩
  · rw [if_neg c3]; exact .inr ⟨rfl, rfl, rfl, hfl0, c3⟩
theorem free_parts {f : Nat → Int} {fl : Nat → List Nat} {k : Nat} (h : Inv f fl k) (r s : Nat) (hj : judgeF f r = 0) (hs : sz f (r % 65536) = s) :
    cnLive (freeF f r).f = cnLive f - s ∧ cnUnt (freeF f r).f = cnUnt f ∧ cnSpent (freeF f r).f = cnSpent f + (if gen f (r % 65536) = 281474976710655 then (s : Int) else 0) ∧ cnFree (freeF f r).f = cnFree f + (if gen f (r % 65536) = 281474976710655 then 0 else (s : Int)) := by
  have ha := judge_addr hj
  obtain ⟨l1, l2, l3⟩ := judge_live hj
  obtain ⟨s', hs'⟩ := h.head _ ha.2 (.inl l1)
  have e : s' = s := by have := hs'.size; omega
  subst e
  unfold freeF
  rw [if_neg (by rw [hj]; decide)]
  simp only [hs, Int.toNat_natCast]
  by_cases e : gen f (r % 65536) = 281474976710655
  · rw [if_pos e, if_pos e, if_pos e]
    exact ⟨cnLive_F2 f _ s' ha.2 hs'.hi, cnUnt_F2 f _ s' ha.2 hs'.hi, cnSpent_F2 f _ s' ha.2 hs'.hi, by show cnFree (spendF f (r % 65536) s') = _; rw [cnFree_F2 f _ s' ha.2 hs'.hi]; omega⟩
  · rw [if_neg e, if_neg e, if_neg e]
    exact ⟨cnLive_F1 f _ s' ha.2 hs'.hi, cnUnt_F1 f _ s' ha.2 hs'.hi, by show cnSpent (pushF f (r % 65536) s') = _; rw [cnSpent_F1 f _ s' ha.2 hs'.hi]; omega, cnFree_F1 f _ s' ha.2 hs'.hi⟩
theorem judge_new {f f' : Nat → Int} {fl fl' : Nat → List Nat} {x s r0 : Nat} (e : AllocOk f f' fl fl' x s) (hr0 : r0 = ((gen f x).toNat + 1) * 65536 + x) : judgeF f r0 = 5 := by
  have hx := e.xs
  have hs := e.s1
  obtain ⟨p1, p2⟩ := ref_parts (by omega) hr0
  have g0 := e.g0
  unfold judgeF
  rw [p1, p2, if_neg (not_not_intro ⟨e.x1, by omega⟩)]
  by_cases c : role f x = 1 ∨ role f x = 3 ∨ role f x = 5
  · rw [if_neg (not_not_intro c), if_pos (.inr (by omega))]
  · rw [if_pos c]
theorem RM.alloc {f f' : Nat → Int} {fl fl' : Nat → List Nat} {W R R' Z Fd : List (Int × Value)} {ws ws' : List WE} {x s r0 : Nat} (M : RM f fl W R Z Fd ws) (e : AllocOk f f' fl fl' x s) (hr0 : r0 = ((gen f x).toNat + 1) * 65536 + x)
    (hw : ∀ i, i < 4096 → word f' i = word f i) (hR : U64s R' (raiseD (fun c => gen f c - boot f) x s)) (hsz : IsHead (role f x) → sz f x = s) (hL : cnLive f' = cnLive f + s) (hws : WsOk fl' ws') (hfs : fsum ws' = cnFree f') (hu : cnUnt f' = 4096 - fresh f') :
    RM f' fl' W R' (mput Z (r0 : Int) (.int .i64 (s : Int))) Fd ws' := by
  have hx := e.xs
  have hs := e.s1
  obtain ⟨p1, p2⟩ := ref_parts (by omega) hr0
  have hj5 := judge_new e hr0
  have hn : mget Z (r0 : Int) = none := by rw [M.zs r0, if_pos hj5]
  have hj : ∀ r, judgeF f' r = if r = r0 then 0 else judgeF f r := fun r => judge_alloc e hr0 r
  have hszr : ∀ r, r ≠ r0 → judgeF f r ≠ 5 → sz f' (r % 65536) = sz f (r % 65536) := by
    intro r _ hne
    obtain ⟨h1, h2⟩ := judge_head hne
    rw [e.szz _ h1]
    by_cases c : r % 65536 = x
    · rw [if_pos c, c]; rw [c] at h2; exact (hsz h2).symm
    · rw [if_neg c]
  refine ⟨fun a a1 a2 => by rw [hw a a2]; exact M.wd a a1 a2, hR.congr fun c hc => ?_, fun r => ?_, fun r => ?_, fun p hp => ?_, ?_, ?_, hws, hfs, hu, fun c hc => by rw [e.bt, e.gn c hc]; have h1 := e.gb; have h2 := M.gb c hc; split <;> omega⟩
  · rw [e.gn c hc, e.bt]
    unfold raiseD
    by_cases hin : x ≤ c ∧ c < x + s
    · have hcl := (e.cells c hin.1 hin.2).1
      rw [if_pos hin, if_pos hin]; dsimp only; omega
    · rw [if_neg hin, if_neg hin]
  · rw [mget_mput, hj r]
    by_cases c : r = r0
    · rw [if_pos (by omega), if_pos c, if_neg (by decide), c, p1, e.szz x (by omega), if_pos rfl]
    · rw [if_neg (by omega), if_neg c, M.zs r]
      by_cases c5 : judgeF f r = 5
      · rw [if_pos c5, if_pos c5]
      · rw [if_neg c5, if_neg c5, hszr r c c5]
  · rw [hj r]
    by_cases c : r = r0
    · rw [if_pos c, M.fd r, c, hj5]; rfl
    · rw [if_neg c]; exact M.fd r
  · rw [mput_new _ _ _ hn] at hp
    rcases List.mem_append.1 hp with q | q
    · exact M.zk p q
    · rw [List.mem_singleton.1 q]; show 0 ≤ (r0 : Int); omega
  · rw [mput_new _ _ _ hn, List.map_append, List.nodup_append]
    refine ⟨M.zn, by simp, fun a ha b hb q => ?_⟩
    have hb : b = (r0 : Int) := by simpa using hb
    exact mget_none_of hn (hb ▸ q ▸ ha)
  · rw [mput_new _ _ _ hn, lsum_snoc, lsum_congr (f := f), M.live, hL]
    · show cnLive f + ltm f' (r0 : Int) = _
      unfold ltm
      rw [Int.toNat_natCast, hj r0, if_pos rfl, if_pos rfl, p1, e.szz x (by omega), if_pos rfl]
    · intro p hp
      have hk := M.zk p hp
      have hne : p.1.toNat ≠ r0 := by
        intro q
        exact mget_none_of hn (List.mem_map.2 ⟨p, hp, by omega⟩)
      unfold ltm
      rw [hj, if_neg hne]
      by_cases c : judgeF f p.1.toNat = 0
      · rw [if_pos c, if_pos c, hszr _ hne (by rw [c]; decide)]
      · rw [if_neg c, if_neg c]
theorem RM.freed {f f' : Nat → Int} {fl fl' : Nat → List Nat} {W R Z Fd : List (Int × Value)} {ws ws' : List WE} {s r0 : Nat} (M : RM f fl W R Z Fd ws) (hj0 : judgeF f r0 = 0) (e : FreeOk f f' fl fl' (r0 % 65536) s)
    (hw : ∀ i, i < 4096 → word f' i = word f i) (hL : cnLive f' = cnLive f - s) (hws : WsOk fl' ws') (hfs : fsum ws' = cnFree f') (hu : cnUnt f' = 4096 - fresh f') :
    RM f' fl' W R Z (mput Fd (r0 : Int) (.bool true)) ws' := by
  have hj : ∀ r, judgeF f' r = if r = r0 then 6 else judgeF f r := fun r => judge_free hj0 e r
  have ha := judge_addr hj0
  have hz0 : mget Z (r0 : Int) = some (.int .i64 (sz f (r0 % 65536))) := by rw [M.zs r0, hj0, if_neg (by decide)]
  refine ⟨fun a a1 a2 => by rw [hw a a2]; exact M.wd a a1 a2, M.rd.congr fun c hc => by rw [e.gn c hc, e.bt], fun r => ?_, fun r => ?_, M.zk, M.zn, ?_, hws, hfs, hu, fun c hc => by rw [e.bt, e.gn c hc]; exact M.gb c hc⟩
  · rw [hj r]
    by_cases c : r = r0
    · rw [if_pos c, if_neg (by decide), c, hz0, e.szz _ ha.2]
    · rw [if_neg c, M.zs r]
      by_cases c5 : judgeF f r = 5
      · rw [if_pos c5, if_pos c5]
      · rw [if_neg c5, if_neg c5, e.szz _ (judge_head c5).1]
  · rw [mget_mput, hj r]
    by_cases c : r = r0
    · rw [if_pos (by omega), if_pos c]; rfl
    · rw [if_neg (by omega), if_neg c]; exact M.fd r
  · have h0 : ltm f' (r0 : Int) = 0 := by unfold ltm; rw [Int.toNat_natCast, hj r0, if_pos rfl, if_neg (by decide)]
    rw [lsum_drop (f := f) h0 M.zn (mget_mem hz0), M.live, hL]
    · unfold ltm; rw [Int.toNat_natCast, if_pos hj0, e.size]
    · intro p hp hne
      have hk := M.zk p hp
      have hne' : p.1.toNat ≠ r0 := by omega
      unfold ltm
      rw [hj, if_neg hne']
      by_cases c : judgeF f p.1.toNat = 0
      · rw [if_pos c, if_pos c, e.szz _ (judge_addr c).2]
      · rw [if_neg c, if_neg c]
def mblk (mb wb rb zb fb qb : Nat) (bt fr sp : Int) (W R Z Fd Q : List (Int × Value)) : List (Nat × Obj) := [(mb, C [.map (some wb), .int .u64 bt, .map (some rb), .map (some zb), .map (some fb), .map (some qb), .int .u32 fr, .int .i64 sp] 56), (wb, MO (kInt .u32) W), (rb, MO (kInt .u32) R), (zb, MO (kInt .u64) Z), (fb, MO (kInt .u64) Fd), (qb, MO (kInt .i64) Q)]
def MFB (mb wb rb zb fb qb : Nat) (f : Nat → Int) (W R Z Fd : List (Int × Value)) (ws : List WE) : List (Nat × Obj) := mblk mb wb rb zb fb qb (boot f) (fresh f) (cnSpent f) W R Z Fd (ws.map WE.kv) ++ ws.flatMap WE.E
def StepR (mb wb rb zb fb qb k : Nat) (f : Nat → Int) (o : MOp) (v : Value) (F' : List (Nat × Obj)) : Prop :=
  ∃ fl' W' R' Z' Fd' ws', Inv (doF f o).f fl' (k + 1) ∧ RM (doF f o).f fl' W' R' Z' Fd' ws' ∧ v = .agg ⟨(doF f o).ans.l⟩ ∧ F' = MFB mb wb rb zb fb qb (doF f o).f W' R' Z' Fd' ws'

end Go.Proofs.Qxb6500913a

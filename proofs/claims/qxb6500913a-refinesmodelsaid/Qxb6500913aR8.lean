import Derived.Test.Qxb6500913aR7
namespace Go.Proofs.Qxb6500913a
open Go.Eng
set_option linter.unusedVariables false
set_option linter.unusedSimpArgs false

attribute [local irreducible] encL

theorem doF_fits {f : Nat → Int} {fl : Nat → List Nat} {k : Nat} (h : Inv f fl k) (o : MOp) : Fits .u64 (doF f o).ans.w0 ∧ Fits .u64 (doF f o).ans.w1 := by
  have z : Fits .u64 0 := by simp only [Fits]; omega
  unfold doF
  by_cases k0 : o.kd = 0
  · simp only [if_pos k0]
    by_cases c : 2 ≤ o.x ∧ o.x < 4096
    · simp only [if_pos c]; exact ⟨h.words _ (by omega), z⟩
    · simp only [if_neg c]; exact ⟨z, z⟩
  simp only [if_neg k0]
  by_cases k1 : o.kd = 1
  · simp only [if_pos k1]
    by_cases c : 2 ≤ o.x ∧ o.x < 4096
    · simp only [if_pos c]; exact ⟨z, z⟩
    · simp only [if_neg c]; exact ⟨z, z⟩
  simp only [if_neg k1]
  by_cases k2 : o.kd = 2
  · simp only [if_pos k2]
    by_cases c : 2 ≤ o.x ∧ o.x < 4096
    · simp only [if_pos c]; exact ⟨h.words _ (by omega), z⟩
    · simp only [if_neg c]; exact ⟨z, z⟩
  simp only [if_neg k2]
  by_cases k3 : o.kd = 3
  · simp only [if_pos k3]
    by_cases c : 2 ≤ o.x ∧ o.x < 4096
    · simp only [if_pos c]; exact ⟨h.words _ (by omega), z⟩
    · simp only [if_neg c]; exact ⟨z, z⟩
  simp only [if_neg k3]
  by_cases k4 : o.kd = 4
  · simp only [if_pos k4]
    by_cases c : ¬ (2 ≤ o.x ∧ o.x < 4096)
    · simp only [if_pos c]; exact ⟨z, z⟩
    · simp only [if_neg c]
      by_cases c2 : o.x % 2 ≠ 0
      · simp only [if_pos c2]; exact ⟨z, z⟩
      · simp only [if_neg c2]; exact ⟨h.words _ (by omega), h.words _ (by omega)⟩
  simp only [if_neg k4]
  by_cases k5 : o.kd = 5
  · simp only [if_pos k5]
    by_cases c : 32 < o.a
    · simp only [if_pos c]; exact ⟨z, z⟩
    · simp only [if_neg c]
      obtain ⟨r, e, hr⟩ := alloc_ref h o.a
      rw [e]
      exact ⟨fits_nat hr, z⟩
  simp only [if_neg k5]
  by_cases k6 : o.kd = 6
  · simp only [if_pos k6]; exact ⟨z, z⟩
  · simp only [if_neg k6]; exact ⟨z, z⟩
/-! the model's census -/
def ztF (f : Nat → Int) (Z : List (Int × Value)) (j : Nat) : Int := match Z[j]? with
  | some p => ltm f p.1
  | none => 0
def qtF (ws : List WE) (j : Nat) : Int := match ws[j]? with
  | some w => keyC w.c * (w.xs.length : Int)
  | none => 0
theorem sumF_map (g : Nat → Int) (h : Nat → Nat) : ∀ l : List Nat, sumF g (l.map h) = sumF (fun j => g (h j)) l
  | [] => rfl
  | x :: l => by show g (h x) + sumF g (l.map h) = g (h x) + sumF (fun j => g (h j)) l; rw [sumF_map g h l]
theorem sum_z (f : Nat → Int) : ∀ Z : List (Int × Value), sumF (ztF f Z) (List.range Z.length) = lsum f Z
  | [] => rfl
  | p :: Z => by
    rw [List.length_cons, List.range_succ_eq_map]
    show ltm f p.1 + sumF (ztF f (p :: Z)) ((List.range Z.length).map Nat.succ) = ltm f p.1 + lsum f Z
    rw [sumF_map, ← sum_z f Z]; rfl
theorem sum_q : ∀ ws : List WE, sumF (qtF ws) (List.range ws.length) = fsum ws
  | [] => rfl
  | w :: ws => by
    rw [List.length_cons, List.range_succ_eq_map]
    show keyC w.c * (w.xs.length : Int) + sumF (qtF (w :: ws)) ((List.range ws.length).map Nat.succ) = keyC w.c * (w.xs.length : Int) + fsum ws
    rw [sumF_map, ← sum_q ws]; rfl
theorem ltm_nn {f : Nat → Int} {fl : Nat → List Nat} {k : Nat} (h : Inv f fl k) (z : Int) : 0 ≤ ltm f z := by
  unfold ltm
  by_cases c : judgeF f z.toNat = 0
  · rw [if_pos c]; exact (h.szs _ (judge_addr c).2).1
  · rw [if_neg c]; exact Int.le_refl _
theorem keyC_nn (c : Nat) (n : Nat) : 0 ≤ keyC c * (n : Int) := Int.mul_nonneg (by unfold keyC; omega) (by omega)
theorem censusM2 {mb wb rb zb fb qb k : Nat} {f : Nat → Int} {fl : Nat → List Nat} {W R Z Fd : List (Int × Value)} {ws : List WE} (h : Inv f fl k) (hk : k ≤ 1000000) (M : RM f fl W R Z Fd ws) :
    Sp Try.prog 20 #[.pointer (some ⟨mb, 0, none⟩)] (MFB mb wb rb zb fb qb f W R Z Fd ws) (fun v F' => v = .agg ⟨[.int .i64 (cnNil f), .int .i64 (cnLive f), .int .i64 (cnFree f), .int .i64 (cnSpent f), .int .i64 (cnUnt f)]⟩ ∧ F' = MFB mb wb rb zb fb qb f W R Z Fd ws) := by
  obtain ⟨fe, hfe, hfe2, hfe4, _⟩ := h.fr
  have c1 := h.cn1
  have c2 := h.cn2
  have hs := censusM_spec mb wb rb zb fb qb W R Z Fd (ws.map WE.kv) (boot f) (fresh f) (cnSpent f) (ztF f Z) (qtF ws) (cnLive f) (cnFree f) (by omega)
    (fun j => by unfold ztF; split; exact ltm_nn h _; exact Int.le_refl _) (fun j => by unfold qtF; split; exact keyC_nn _ _; exact Int.le_refl _) (fun j p hp => ?_) (fun j p hp => ?_) (by rw [sum_z]; exact M.live) (by rw [List.length_map, sum_q]; exact M.free) (by omega) (by omega)
  · refine sp_post (sp_frame (F := MFB mb wb rb zb fb qb f W R Z Fd ws) (G := ws.flatMap WE.E) hs (List.Perm.refl _)) ?_
    rintro v F' ⟨F2, ⟨rfl, rfl⟩, rfl⟩
    exact ⟨MFB mb wb rb zb fb qb f W R Z Fd ws, [], ⟨by rw [h.cn0, M.un], rfl⟩, by rw [List.append_nil]; exact List.Perm.refl _⟩
  · have hm := List.mem_of_getElem? hp
    have hk0 := M.zk p hm
    have hg := mget_some_of M.zn hm
    obtain ⟨r, hr⟩ : ∃ r : Nat, p.1 = r := ⟨p.1.toNat, by omega⟩
    rw [hr, M.zs r] at hg
    by_cases j5 : judgeF f r = 5
    · rw [if_pos j5] at hg; cases hg
    · rw [if_neg j5] at hg
      injection hg with hg
      have hz := h.szs _ (judge_head j5).1
      refine ⟨sz f (r % 65536), decide (judgeF f r = 6), hg.symm, hz.1, hz.2, by rw [hr]; exact M.fd r, ?_⟩
      show (match Z[j]? with | some p => ltm f p.1 | none => 0) = _
      rw [hp]
      show ltm f p.1 = _
      unfold ltm
      rw [hr, Int.toNat_natCast]
      rcases judge_cases f r with q | q | q
      · rw [if_pos q, q]; rfl
      · exact absurd q j5
      · rw [if_neg (by rw [q]; decide), q]; rfl
  · rw [List.getElem?_map] at hp
    cases hw : ws[j]? with
    | none => rw [hw] at hp; cases hp
    | some w =>
      rw [hw] at hp
      injection hp with hp
      obtain ⟨r1, r2, r3⟩ := M.wk.row w (List.mem_of_getElem? hw)
      have hln := h.fl_le w.c r1
      rw [r3, List.length_reverse] at hln
      have hkc : keyC w.c ≤ 32 := by unfold keyC; omega
      have hk0 : 0 ≤ keyC w.c := by unfold keyC; omega
      have hq : qtF ws j = keyC w.c * (w.xs.length : Int) := by unfold qtF; rw [hw]
      have hle : keyC w.c * (w.xs.length : Int) ≤ 32 * 4096 := Int.mul_le_mul hkc (by omega) (by omega) (by omega)
      have hv : ∃ pp cap, w.v = .slice pp w.xs.length cap := by
        rcases r2 with ⟨h1, h2, _⟩ | ⟨b, cap, junk, h1, _⟩
        · exact ⟨none, 0, by rw [h1, h2]⟩
        · exact ⟨_, _, h1⟩
      obtain ⟨pp, cap, hv⟩ := hv
      subst hp
      exact ⟨pp, w.xs.length, cap, hv, by omega, hk0, hkc, hq.symm, keyC_nn _ _, by show keyC w.c * (w.xs.length : Int) ≤ 32000000; omega⟩
theorem MFB_eq (mb wb rb zb fb qb : Nat) (f : Nat → Int) (W R Z Fd : List (Int × Value)) (ws : List WE) : MFB mb wb rb zb fb qb f W R Z Fd ws = [(mb, C [.map (some wb), .int .u64 (boot f), .map (some rb), .map (some zb), .map (some fb), .map (some qb), .int .u32 (fresh f), .int .i64 (cnSpent f)] 56), (wb, MO (kInt .u32) W), (rb, MO (kInt .u32) R), (zb, MO (kInt .u64) Z), (fb, MO (kInt .u64) Fd), (qb, MO (kInt .i64) (ws.map WE.kv))] ++ ws.flatMap WE.E := rfl
theorem MFB_init (mb wb rb zb fb qb : Nat) (G : Int) : MFB mb wb rb zb fb qb (initF G) [] [] [] [] [] = [(mb, C [.map (some wb), .int .u64 G, .map (some rb), .map (some zb), .map (some fb), .map (some qb), .int .u32 2, .int .i64 0] 56), (wb, MO (kInt .u32) []), (rb, MO (kInt .u32) []), (zb, MO (kInt .u64) []), (fb, MO (kInt .u64) []), (qb, MO (kInt .i64) [])] := by
  have hf : fresh (initF G) = 2 := by unfold fresh; rw [initF_at, if_neg (by omega), if_pos (by omega)]
  have hb : boot (initF G) = G := by unfold boot; rw [initF_at, if_neg (by omega), if_neg (by omega), if_pos (by omega)]
  have hs : cnSpent (initF G) = 0 := by unfold cnSpent; rw [initF_at, if_neg (by omega), if_neg (by omega), if_neg (by omega), if_neg (by omega), if_neg (by omega)]
  rw [MFB_eq, hf, hb, hs]; rfl
structure RS where
  W : List (Int × Value)
  R : List (Int × Value)
  Z : List (Int × Value)
  Fd : List (Int × Value)
  ws : List WE
theorem has_rot2 {D : List Nat} {w0 w : World} {E G : List (Nat × Obj)} {x y p q : Nat × Obj} (h : Has D w0 (x :: y :: (E ++ (p :: q :: G))) w) : Has D w0 (p :: q :: x :: y :: (G ++ E)) w := by
  refine h.perm ?_
  have h1 : (x :: y :: (E ++ (p :: q :: G))).Perm (x :: y :: ((p :: q :: G) ++ E)) := (List.perm_append_comm.cons y).cons x
  refine h1.trans ?_
  exact List.perm_append_comm (l₁ := [x, y]) (l₂ := [p, q]) |>.append_right (G ++ E)

end Go.Proofs.Qxb6500913a

import Derived.Test.Qxb6500913aR3
namespace Go.Proofs.Qxb6500913a
open Go.Eng
set_option linter.unusedVariables false
set_option linter.unusedSimpArgs false

theorem alloc_words {f : Nat → Int} {fl : Nat → List Nat} {k : Nat} (h : Inv f fl k) (n i : Nat) (hi : i < 4096) : word (allocF f n).f i = word f i := by
  unfold allocF
  by_cases c1 : n = 0 ∨ 32 < n
  · rw [if_pos c1]
  rw [if_neg c1]
  obtain ⟨s, hs⟩ : ∃ s, (n + 1) / 2 * 2 = s := ⟨_, rfl⟩
  simp only [hs]
  by_cases c2 : lst f (s / 2 - 1) ≠ 0
  · rw [if_pos c2]
    obtain ⟨x, hx⟩ : ∃ x : Nat, lst f (s / 2 - 1) = x := by
      have hch := h.chain (s / 2 - 1) (by omega)
      cases hfl : fl (s / 2 - 1) with
      | nil => rw [hfl] at hch; exact absurd hch c2
      | cons y l => rw [hfl] at hch; exact ⟨y, hch.1⟩
    rw [hx]
    obtain ⟨m1, _⟩ := h.pop (by omega) (by omega) (by omega) hx (by omega)
    exact word_A1 f x s i m1 (by omega) hi
  rw [if_neg c2]
  by_cases c3 : fresh f + s ≤ 4096 ∧ boot f < 281474976710655
  · rw [if_pos c3]
    obtain ⟨x, hx, _⟩ := h.fr
    rw [hx]
    exact word_A2 f x s i (by omega) (by omega) hi
  · rw [if_neg c3]
theorem free_words {f : Nat → Int} {fl : Nat → List Nat} {k : Nat} (h : Inv f fl k) (r i : Nat) (hi : i < 4096) : word (freeF f r).f i = word f i := by
  unfold freeF
  by_cases c1 : judgeF f r ≠ 0
  · rw [if_pos c1]
  rw [if_neg c1]
  have hj : judgeF f r = 0 := Decidable.not_not.1 c1
  have ha := judge_addr hj
  obtain ⟨l1, l2, l3⟩ := judge_live hj
  obtain ⟨s, hs⟩ := h.head _ ha.2 (.inl l1)
  simp only [hs.size, Int.toNat_natCast]
  split
  · exact word_F2 f _ s i ha.2 hs.hi hi
  · exact word_F1 f _ s i ha.2 hs.hi hi
/-! the waiting nodes, as the model keeps them -/
structure WE where
  c : Nat
  v : Value
  xs : List Nat
  E : List (Nat × Obj)
def u32v (x : Nat) : Value := .int .u32 (x : Int)
def keyC (c : Nat) : Int := ((2 * (c + 1) : Nat) : Int)
theorem keyC_inj {c d : Nat} (h : keyC c = keyC d) : c = d := by unfold keyC at h; omega
def WE.kv (w : WE) : Int × Value := (keyC w.c, w.v)
def fsum : List WE → Int
  | [] => 0
  | w :: l => keyC w.c * (w.xs.length : Int) + fsum l
theorem fsum_app : ∀ (A B : List WE), fsum (A ++ B) = fsum A + fsum B
  | [], B => by show fsum B = 0 + fsum B; omega
  | w :: A, B => by show keyC w.c * (w.xs.length : Int) + fsum (A ++ B) = _; rw [fsum_app A B]; show _ = keyC w.c * (w.xs.length : Int) + fsum A + fsum B; omega
theorem mget_kv_none {ws : List WE} {c : Nat} (h : ∀ w, w ∈ ws → w.c ≠ c) : mget (ws.map WE.kv) (keyC c) = none := by
  induction ws with
  | nil => rfl
  | cons w l ih =>
    show (if keyC c = keyC w.c then some w.v else mget (l.map WE.kv) (keyC c)) = none
    rw [if_neg (fun e => h w (List.mem_cons_self ..) (keyC_inj e).symm)]
    exact ih fun u hu => h u (List.mem_cons_of_mem _ hu)
theorem mget_kv {A B : List WE} {w : WE} (h : ∀ u, u ∈ A → u.c ≠ w.c) : mget ((A ++ w :: B).map WE.kv) (keyC w.c) = some w.v := by
  induction A with
  | nil => show (if keyC w.c = keyC w.c then some w.v else _) = _; rw [if_pos rfl]
  | cons u l ih =>
    show (if keyC w.c = keyC u.c then some u.v else mget ((l ++ w :: B).map WE.kv) (keyC w.c)) = _
    rw [if_neg (fun e => h u (List.mem_cons_self ..) (keyC_inj e).symm)]
    exact ih fun z hz => h z (List.mem_cons_of_mem _ hz)
theorem mput_kv {A B : List WE} {w w' : WE} (hc : w'.c = w.c) (h : ∀ u, u ∈ A → u.c ≠ w.c) : mput ((A ++ w :: B).map WE.kv) (keyC w.c) w'.v = (A ++ w' :: B).map WE.kv := by
  induction A with
  | nil =>
    show (if keyC w.c = keyC w.c then (keyC w.c, w'.v) :: B.map WE.kv else _) = (keyC w'.c, w'.v) :: B.map WE.kv
    rw [if_pos rfl, hc]
  | cons u l ih =>
    show (if keyC w.c = keyC u.c then (keyC u.c, w'.v) :: (l ++ w :: B).map WE.kv else (keyC u.c, u.v) :: mput ((l ++ w :: B).map WE.kv) (keyC w.c) w'.v) = (keyC u.c, u.v) :: (l ++ w' :: B).map WE.kv
    rw [if_neg (fun e => h u (List.mem_cons_self ..) (keyC_inj e).symm), ih fun z hz => h z (List.mem_cons_of_mem _ hz)]
theorem mput_new {κ : Type} [DecidableEq κ] (l : List (κ × Value)) (a : κ) (v : Value) (h : mget l a = none) : mput l a v = l ++ [(a, v)] := by
  induction l with
  | nil => rfl
  | cons p l ih =>
    unfold mget at h
    by_cases e : a = p.1
    · rw [if_pos e] at h; cases h
    · rw [if_neg e] at h
      unfold mput; rw [if_neg e, ih h]; rfl
theorem mput_kv_new {ws : List WE} {w' : WE} (h : ∀ u, u ∈ ws → u.c ≠ w'.c) : mput (ws.map WE.kv) (keyC w'.c) w'.v = (ws ++ [w']).map WE.kv := by
  rw [mput_new _ _ _ (mget_kv_none h), List.map_append]; rfl
structure WsOk (fl : Nat → List Nat) (ws : List WE) : Prop where
  nd : (ws.map WE.c).Nodup
  row : ∀ w, w ∈ ws → w.c < 16 ∧ Row w.v w.xs.length (w.xs.map u32v) 1 34 w.E ∧ fl w.c = w.xs.reverse
  all : ∀ c, c < 16 → fl c ≠ [] → ∃ w, w ∈ ws ∧ w.c = c
theorem WsOk.split {fl : Nat → List Nat} {ws : List WE} (h : WsOk fl ws) {w : WE} (hw : w ∈ ws) : ∃ A B, ws = A ++ w :: B ∧ (∀ u, u ∈ A → u.c ≠ w.c) ∧ (∀ u, u ∈ B → u.c ≠ w.c) := by
  obtain ⟨A, B, rfl⟩ := List.append_of_mem hw
  have hn := h.nd
  rw [List.map_append, List.nodup_append] at hn
  obtain ⟨n1, n2, n3⟩ := hn
  rw [List.map_cons, List.nodup_cons] at n2
  exact ⟨A, B, rfl, fun u hu e => n3 u.c (List.mem_map.2 ⟨u, hu, rfl⟩) w.c (by simp) e, fun u hu e => n2.1 (List.mem_map.2 ⟨u, hu, e⟩)⟩
theorem WsOk.replace {fl fl' : Nat → List Nat} {A B : List WE} {w w' : WE} (h : WsOk fl (A ++ w :: B)) (hA : ∀ u, u ∈ A → u.c ≠ w.c) (hB : ∀ u, u ∈ B → u.c ≠ w.c) (hc : w'.c = w.c) (hr : Row w'.v w'.xs.length (w'.xs.map u32v) 1 34 w'.E) (hf : fl' w.c = w'.xs.reverse) (hfl : ∀ c, c ≠ w.c → fl' c = fl c) : WsOk fl' (A ++ w' :: B) := by
  refine ⟨?_, fun u hu => ?_, fun c hc16 hne => ?_⟩
  · have := h.nd
    rw [List.map_append, List.map_cons] at this ⊢
    rw [hc]; exact this
  · rcases List.mem_append.1 hu with q | q
    · obtain ⟨r1, r2, r3⟩ := h.row u (List.mem_append_left _ q)
      exact ⟨r1, r2, by rw [hfl _ (hA u q)]; exact r3⟩
    · rcases List.mem_cons.1 q with rfl | q
      · exact ⟨by rw [hc]; exact (h.row w (by simp)).1, hr, by rw [hc]; exact hf⟩
      · obtain ⟨r1, r2, r3⟩ := h.row u (by simp [q])
        exact ⟨r1, r2, by rw [hfl _ (hB u q)]; exact r3⟩
  · by_cases e : c = w.c
    · exact ⟨w', by simp, by rw [hc, e]⟩
    · rw [hfl c e] at hne
      obtain ⟨u, hu, rfl⟩ := h.all c hc16 hne
      rcases List.mem_append.1 hu with q | q
      · exact ⟨u, by simp [q], rfl⟩
      · rcases List.mem_cons.1 q with rfl | q
        · exact absurd rfl e
        · exact ⟨u, by simp [q], rfl⟩
theorem WsOk.add {fl fl' : Nat → List Nat} {ws : List WE} {w' : WE} (h : WsOk fl ws) (hn : ∀ u, u ∈ ws → u.c ≠ w'.c) (hc : w'.c < 16) (hr : Row w'.v w'.xs.length (w'.xs.map u32v) 1 34 w'.E) (hf : fl' w'.c = w'.xs.reverse) (hfl : ∀ c, c ≠ w'.c → fl' c = fl c) : WsOk fl' (ws ++ [w']) := by
  refine ⟨?_, fun u hu => ?_, fun c hc16 hne => ?_⟩
  · rw [List.map_append, List.nodup_append]
    refine ⟨h.nd, by simp, fun a ha b hb e => ?_⟩
    obtain ⟨u, hu, rfl⟩ := List.mem_map.1 ha
    have hb : b = w'.c := by simpa using hb
    exact hn u hu (e.trans hb)
  · rcases List.mem_append.1 hu with q | q
    · obtain ⟨r1, r2, r3⟩ := h.row u q
      exact ⟨r1, r2, by rw [hfl _ (hn u q)]; exact r3⟩
    · rw [List.mem_singleton.1 q]; exact ⟨hc, hr, hf⟩
  · by_cases e : c = w'.c
    · exact ⟨w', by simp, e.symm⟩
    · rw [hfl c e] at hne
      obtain ⟨u, hu, rfl⟩ := h.all c hc16 hne
      exact ⟨u, by simp [hu], rfl⟩
/-! the sizes of the refs that are live -/
def ltm (f : Nat → Int) (k : Int) : Int := if judgeF f k.toNat = 0 then sz f (k.toNat % 65536) else 0
def lsum (f : Nat → Int) : List (Int × Value) → Int
  | [] => 0
  | p :: l => ltm f p.1 + lsum f l
theorem lsum_snoc (f : Nat → Int) (p : Int × Value) : ∀ l : List (Int × Value), lsum f (l ++ [p]) = lsum f l + ltm f p.1
  | [] => by show ltm f p.1 + 0 = 0 + ltm f p.1; omega
  | q :: l => by show ltm f q.1 + lsum f (l ++ [p]) = ltm f q.1 + lsum f l + ltm f p.1; rw [lsum_snoc f p l]; omega
theorem lsum_congr {f f' : Nat → Int} : ∀ {l : List (Int × Value)}, (∀ p, p ∈ l → ltm f' p.1 = ltm f p.1) → lsum f' l = lsum f l
  | [], _ => rfl
  | p :: l, h => by
    show ltm f' p.1 + lsum f' l = ltm f p.1 + lsum f l
    rw [h p (List.mem_cons_self ..), lsum_congr fun q hq => h q (List.mem_cons_of_mem _ hq)]
theorem lsum_drop {f f' : Nat → Int} {k : Int} (h0 : ltm f' k = 0) : ∀ {l : List (Int × Value)}, (l.map Prod.fst).Nodup → k ∈ l.map Prod.fst → (∀ p, p ∈ l → p.1 ≠ k → ltm f' p.1 = ltm f p.1) → lsum f' l = lsum f l - ltm f k
  | [], _, h, _ => by cases h
  | p :: l, hn, h, hc => by
    rw [List.map_cons, List.nodup_cons] at hn
    show ltm f' p.1 + lsum f' l = ltm f p.1 + lsum f l - ltm f k
    by_cases e : p.1 = k
    · rw [e, h0, lsum_congr fun q hq => hc q (List.mem_cons_of_mem _ hq) fun q2 => hn.1 (by rw [e, ← q2]; exact List.mem_map.2 ⟨q, hq, rfl⟩)]; omega
    · rw [hc p (List.mem_cons_self ..) e, lsum_drop h0 hn.2 ((List.mem_cons.1 h).resolve_left fun q => e q.symm) fun q hq => hc q (List.mem_cons_of_mem _ hq)]; omega
theorem mget_mem {l : List (Int × Value)} {a : Int} {v : Value} (h : mget l a = some v) : a ∈ l.map Prod.fst := by
  induction l with
  | nil => cases h
  | cons p l ih =>
    unfold mget at h
    by_cases e : a = p.1
    · rw [e]; simp
    · rw [if_neg e] at h; simp only [List.map_cons, List.mem_cons]; exact .inr (ih h)
theorem mget_some_of {l : List (Int × Value)} {p : Int × Value} (hn : (l.map Prod.fst).Nodup) (h : p ∈ l) : mget l p.1 = some p.2 := by
  induction l with
  | nil => cases h
  | cons q l ih =>
    rw [List.map_cons, List.nodup_cons] at hn
    unfold mget
    rcases List.mem_cons.1 h with rfl | h
    · rw [if_pos rfl]
    · have hne : ¬ p.1 = q.1 := fun e => hn.1 (by rw [← e]; exact List.mem_map.2 ⟨p, h, rfl⟩)
      rw [if_neg hne]; exact ih hn.2 h
theorem mget_none_of {l : List (Int × Value)} {a : Int} (h : mget l a = none) : a ∉ l.map Prod.fst := by
  induction l with
  | nil => simp
  | cons p l ih =>
    unfold mget at h
    by_cases e : a = p.1
    · rw [if_pos e] at h; cases h
    · rw [if_neg e] at h
      intro hm
      rcases List.mem_cons.1 hm with q | q
      · exact e q
      · exact ih h q
/-- the model's state agrees with the memory -/
structure RM (f : Nat → Int) (fl : Nat → List Nat) (W R Z Fd : List (Int × Value)) (ws : List WE) : Prop where
  wd : ∀ a : Nat, 2 ≤ a → a < 4096 → (mget W (a : Int)).getD (.int .u64 0) = .int .u64 (word f a)
  rd : U64s R (fun c => gen f c - boot f)
  zs : ∀ r : Nat, mget Z (r : Int) = if judgeF f r = 5 then none else some (.int .i64 (sz f (r % 65536)))
  fd : ∀ r : Nat, (mget Fd (r : Int)).getD (.bool false) = .bool (decide (judgeF f r = 6))
  zk : ∀ p, p ∈ Z → 0 ≤ p.1
  zn : (Z.map Prod.fst).Nodup
  live : lsum f Z = cnLive f
  wk : WsOk fl ws
  free : fsum ws = cnFree f
  un : cnUnt f = 4096 - fresh f
  gb : ∀ c : Nat, c < 4096 → boot f ≤ gen f c
theorem RM.start (G : Int) (h0 : 0 ≤ G) (h1 : G ≤ 281474976710655) : RM (initF G) (fun _ => []) [] [] [] [] [] := by
  have hf : fresh (initF G) = 2 := by unfold fresh; rw [initF_at, if_neg (by omega), if_pos (by omega)]
  have hb : boot (initF G) = G := by unfold boot; rw [initF_at, if_neg (by omega), if_neg (by omega), if_pos (by omega)]
  have hj : ∀ r, judgeF (initF G) r = 5 := by
    intro r
    unfold judgeF
    by_cases c : 2 ≤ r % 65536 ∧ r % 65536 < 4096
    · have hr : role (initF G) (r % 65536) = 0 := by
        have := (inv_init G h0 h1).unt (r % 65536) c.2
        exact (this (.inr (by rw [hf]; omega))).1
      rw [if_neg (not_not_intro c), hr, if_pos (by omega)]
    · rw [if_pos c]
  refine ⟨fun a a1 a2 => ?_, fun c hc => ?_, fun r => by rw [hj r]; rfl, fun r => by rw [hj r]; rfl, (fun p hp => by cases hp), List.nodup_nil, ?_, ⟨List.nodup_nil, (fun w hw => by cases hw), fun c _ h => absurd rfl h⟩, ?_, ?_, fun c hc => by rw [hb]; unfold gen; rw [initF_at, if_pos (by omega)]; exact Int.le_refl _⟩
  · show Value.int .u64 0 = _
    unfold word; rw [initF_at, if_neg (by omega), if_neg (by omega), if_neg (by omega), if_neg (by omega), if_neg (by omega)]
  · show Value.int .u64 0 = .int .u64 (gen (initF G) c - boot (initF G))
    rw [hb]; unfold gen; rw [initF_at, if_pos (by omega), Int.sub_self]
  · show (0 : Int) = _
    unfold cnLive; rw [initF_at, if_neg (by omega), if_neg (by omega), if_neg (by omega), if_neg (by omega), if_neg (by omega)]
  · show (0 : Int) = _
    unfold cnFree; rw [initF_at, if_neg (by omega), if_neg (by omega), if_neg (by omega), if_neg (by omega), if_neg (by omega)]
  · rw [hf]; unfold cnUnt; rw [initF_at, if_neg (by omega), if_neg (by omega), if_neg (by omega), if_neg (by omega), if_pos (by omega)]; rfl
theorem ltm_same {f f' : Nat → Int} (e : SameBut f f') (k : Int) : ltm f' k = ltm f k := by
  unfold ltm
  rw [judge_same e]
  by_cases c : judgeF f k.toNat = 0
  · rw [if_pos c, if_pos c, e.sz _ (judge_addr c).2]
  · rw [if_neg c, if_neg c]
theorem judge_head {f : Nat → Int} {r : Nat} (h : judgeF f r ≠ 5) : r % 65536 < 4096 ∧ IsHead (role f (r % 65536)) := by
  unfold judgeF at h
  by_cases c : 2 ≤ r % 65536 ∧ r % 65536 < 4096
  · rw [if_neg (not_not_intro c)] at h
    by_cases c2 : role f (r % 65536) = 1 ∨ role f (r % 65536) = 3 ∨ role f (r % 65536) = 5
    · exact ⟨c.2, c2⟩
    · rw [if_pos c2] at h; exact absurd rfl h
  · rw [if_pos c] at h; exact absurd rfl h
theorem RM.same {f f' : Nat → Int} {fl : Nat → List Nat} {W W' R Z Fd : List (Int × Value)} {ws : List WE} (h : RM f fl W R Z Fd ws) (e : SameBut f f') (hw : ∀ a : Nat, 2 ≤ a → a < 4096 → (mget W' (a : Int)).getD (.int .u64 0) = .int .u64 (word f' a)) : RM f' fl W' R Z Fd ws := by
  refine ⟨hw, h.rd.congr fun c hc => by rw [e.gen c hc, e.boot], fun r => ?_, fun r => by rw [judge_same e]; exact h.fd r, h.zk, h.zn, by rw [lsum_congr fun p _ => ltm_same e p.1, e.cn1]; exact h.live, h.wk, by rw [e.cn2]; exact h.free, by rw [e.cn4, e.fresh]; exact h.un, fun c hc => by rw [e.boot, e.gen c hc]; exact h.gb c hc⟩
  rw [judge_same e, h.zs r]
  by_cases c : judgeF f r = 5
  · rw [if_pos c, if_pos c]
  · rw [if_neg c, if_neg c, e.sz _ (judge_head c).1]

end Go.Proofs.Qxb6500913a

import Derived.Test.Qxb6500914aGreatH6
namespace Go.Proofs.Qxb6500914aGreat
open Go.Eng
set_option linter.unusedVariables false
set_option linter.unusedSimpArgs false

/-! ## keys tell states apart -/
theorem bstr_list (cs : List Value) : ∀ s : ByteArray, (cs.foldl (fun s v => s.push (u8Of v)) s).data.toList = s.data.toList ++ cs.map u8Of := by
  induction cs with
  | nil => intro s; simp
  | cons v cs ih => intro s; rw [List.foldl_cons, ih]; simp [ByteArray.push]
theorem u8_inj {cs cs' : List Value} (h1 : ∀ v, v ∈ cs → ∃ y : Int, v = .int .u8 y ∧ 0 ≤ y ∧ y < 256) (h2 : ∀ v, v ∈ cs' → ∃ y : Int, v = .int .u8 y ∧ 0 ≤ y ∧ y < 256) (h : cs.map u8Of = cs'.map u8Of) : cs = cs' := by
  induction cs generalizing cs' with
  | nil => cases cs' with
    | nil => rfl
    | cons b cs' => simp at h
  | cons a cs ih => cases cs' with
    | nil => simp at h
    | cons b cs' =>
      rw [List.map_cons, List.map_cons] at h
      injection h with e1 e2
      obtain ⟨x, rfl, x0, x1⟩ := h1 a (List.mem_cons_self ..)
      obtain ⟨y, rfl, y0, y1⟩ := h2 b (List.mem_cons_self ..)
      have e3 : x = y := by
        have := congrArg UInt8.toNat e1
        simp only [u8Of, UInt8.toNat_ofNat'] at this
        omega
      rw [e3, ih (fun v hv => h1 v (List.mem_cons_of_mem _ hv)) (fun v hv => h2 v (List.mem_cons_of_mem _ hv)) e2]
theorem bstr_inj {cs cs' : List Value} (h1 : ∀ v, v ∈ cs → ∃ y : Int, v = .int .u8 y ∧ 0 ≤ y ∧ y < 256) (h2 : ∀ v, v ∈ cs' → ∃ y : Int, v = .int .u8 y ∧ 0 ≤ y ∧ y < 256) (h : bstr cs = bstr cs') : cs = cs' := by
  refine u8_inj h1 h2 ?_
  have a := bstr_list cs ByteArray.empty
  have b := bstr_list cs' ByteArray.empty
  unfold bstr at h
  rw [h, b] at a
  simpa using a.symm
theorem sh8_eq {x : Int} (h : 0 ≤ x) (j m : Nat) (hm : (2 : Int) ^ (min j 64) = (m : Int)) : sh8 x (j : Int) = (x / (m : Int)) % 256 := by
  unfold sh8
  rw [Int.toNat_natCast, show IntKind.u64.bits = 64 from rfl, hm, Int.fdiv_eq_ediv_of_nonneg _ (by omega)]
theorem le8_eq {x : Int} (h : 0 ≤ x) : le8 x = [.int .u8 (x % 256), .int .u8 (x / 256 % 256), .int .u8 (x / 65536 % 256), .int .u8 (x / 16777216 % 256), .int .u8 (x / 4294967296 % 256), .int .u8 (x / 1099511627776 % 256), .int .u8 (x / 281474976710656 % 256), .int .u8 (x / 72057594037927936 % 256)] := by
  have e1 := sh8_eq h 8 256 (by decide); have e2 := sh8_eq h 16 65536 (by decide); have e3 := sh8_eq h 24 16777216 (by decide); have e4 := sh8_eq h 32 4294967296 (by decide)
  have e5 := sh8_eq h 40 1099511627776 (by decide); have e6 := sh8_eq h 48 281474976710656 (by decide); have e7 := sh8_eq h 56 72057594037927936 (by decide)
  unfold le8
  simp only [show ((8 : Nat) : Int) = 8 from rfl, show ((16 : Nat) : Int) = 16 from rfl, show ((24 : Nat) : Int) = 24 from rfl, show ((32 : Nat) : Int) = 32 from rfl, show ((40 : Nat) : Int) = 40 from rfl, show ((48 : Nat) : Int) = 48 from rfl, show ((56 : Nat) : Int) = 56 from rfl] at e1 e2 e3 e4 e5 e6 e7
  rw [e1, e2, e3, e4, e5, e6, e7]; rfl
theorem le8_inj {x y : Int} (hx : InR x) (hy : InR y) (h : le8 x = le8 y) : x = y := by
  unfold InR at hx hy
  rw [le8_eq hx.1, le8_eq hy.1] at h
  simp only [List.cons.injEq, Value.int.injEq, true_and, and_true] at h
  obtain ⟨h0, h1, h2, h3, h4, h5, h6, h7⟩ := h
  have q : ∀ z : Int, z / 65536 = z / 256 / 256 ∧ z / 16777216 = z / 65536 / 256 ∧ z / 4294967296 = z / 16777216 / 256 ∧ z / 1099511627776 = z / 4294967296 / 256 ∧ z / 281474976710656 = z / 1099511627776 / 256 ∧ z / 72057594037927936 = z / 281474976710656 / 256 := fun z =>
    ⟨by omega, by omega, by omega, by omega, by omega, by omega⟩
  obtain ⟨a1, a2, a3, a4, a5, a6⟩ := q x
  obtain ⟨b1, b2, b3, b4, b5, b6⟩ := q y
  have s : ∀ u v : Int, u % 256 = v % 256 → u / 256 = v / 256 → u = v := fun u v _ _ => by omega
  have t7 : x / 72057594037927936 = y / 72057594037927936 := by omega
  have t6 := s _ _ h6 (a6 ▸ b6 ▸ t7)
  have t5 := s _ _ h5 (a5 ▸ b5 ▸ t6)
  have t4 := s _ _ h4 (a4 ▸ b4 ▸ t5)
  have t3 := s _ _ h3 (a3 ▸ b3 ▸ t4)
  have t2 := s _ _ h2 (a2 ▸ b2 ▸ t3)
  have t1 := s _ _ h1 (a1 ▸ b1 ▸ t2)
  exact s _ _ h0 t1
theorem le8_rng {x : Int} (h : 0 ≤ x) : ∀ v, v ∈ le8 x → ∃ y : Int, v = .int .u8 y ∧ 0 ≤ y ∧ y < 256 := by
  intro v hv
  rw [le8_eq h] at hv
  simp only [List.mem_cons, List.not_mem_nil, or_false] at hv
  rcases hv with rfl | rfl | rfl | rfl | rfl | rfl | rfl | rfl <;> exact ⟨_, rfl, by omega, by omega⟩
theorem fl_inj {α : Type} {f : α → List Value} {s : Nat} (hs : ∀ a, (f a).length = s) (h0 : 0 < s) (Ok : α → Prop) (hf : ∀ a b, Ok a → Ok b → f a = f b → a = b) : ∀ l l' : List α, (∀ a ∈ l, Ok a) → (∀ a ∈ l', Ok a) → fl f l = fl f l' → l = l'
  | [], [], _, _, _ => rfl
  | [], b :: l', _, _, h => by
    have := congrArg List.length h
    rw [fl_len hs, fl_len hs, List.length_nil, List.length_cons, Nat.succ_mul] at this
    omega
  | a :: l, [], _, _, h => by
    have := congrArg List.length h
    rw [fl_len hs, fl_len hs, List.length_nil, List.length_cons, Nat.succ_mul] at this
    omega
  | a :: l, b :: l', h1, h2, h => by
    rw [fl_cons, fl_cons] at h
    obtain ⟨e1, e2⟩ := List.append_inj h (by rw [hs, hs])
    rw [hf a b (h1 a (List.mem_cons_self ..)) (h2 b (List.mem_cons_self ..)) e1, fl_inj hs h0 Ok hf l l' (fun x hx => h1 x (List.mem_cons_of_mem _ hx)) (fun x hx => h2 x (List.mem_cons_of_mem _ hx)) e2]
def pv2 (x : Int × Int) : List Value := le8 x.1 ++ le8 x.2
theorem fl_pv (es : List En) : fl pvL es = fl pv2 (enA es) := by
  unfold fl enA; rw [List.map_map]; rfl
def kyL (k : Bool) (d : Nat → Nat) (A : List (Int × Int)) : List Value := fl (dL d) (List.range 6) ++ [.int .u8 (if k then 0 else (A.length : Int))] ++ (if k then fl pv2 A else fl vL A)
def kyS (k : Bool) (d : Nat → Nat) (A : List (Int × Int)) : ByteArray := bstr (kyL k d A)
structure SOk (k : Bool) (d : Nat → Nat) (A : List (Int × Int)) : Prop where
  dn : ∀ t, t < 6 → d t ≤ 2000000
  ok : AOk A
  z : k = false → ∀ x ∈ A, x.1 = 0
theorem fl_rng {α : Type} {f : α → List Value} {l : List α} (h : ∀ x ∈ l, ∀ v, v ∈ f x → ∃ y : Int, v = .int .u8 y ∧ 0 ≤ y ∧ y < 256) : ∀ v, v ∈ fl f l → ∃ y : Int, v = .int .u8 y ∧ 0 ≤ y ∧ y < 256 := by
  intro v hv
  unfold fl at hv
  rw [List.mem_flatten] at hv
  obtain ⟨x, hx, hv⟩ := hv
  rw [List.mem_map] at hx
  obtain ⟨z, hz, rfl⟩ := hx
  exact h z hz v hv
theorem kyL_rng {k : Bool} {d : Nat → Nat} {A : List (Int × Int)} (h : SOk k d A) : ∀ v, v ∈ kyL k d A → ∃ y : Int, v = .int .u8 y ∧ 0 ≤ y ∧ y < 256 := by
  intro v hv
  unfold kyL at hv
  have hl := h.ok.len
  rw [List.mem_append, List.mem_append] at hv
  rcases hv with (q | q) | q
  · exact fl_rng (fun x _ => le8_rng (by omega)) v q
  · rw [List.mem_singleton] at q
    refine ⟨_, q, ?_⟩
    split <;> omega
  · have hr : ∀ x ∈ A, 0 ≤ x.1 ∧ 0 ≤ x.2 := fun x hx => by have := h.ok.rng x hx; unfold InR at this; omega
    split at q
    · exact fl_rng (fun x hx v hv => by rcases List.mem_append.1 hv with z | z; exact le8_rng (hr x hx).1 v z; exact le8_rng (hr x hx).2 v z) v q
    · exact fl_rng (fun x hx => le8_rng (hr x hx).2) v q
theorem kyS_inj {k : Bool} {d d' : Nat → Nat} {A A' : List (Int × Int)} (h : SOk k d A) (h' : SOk k d' A') (e : kyS k d A = kyS k d' A') : (∀ t, t < 6 → d t = d' t) ∧ A = A' := by
  have e1 := bstr_inj (kyL_rng h) (kyL_rng h') e
  unfold kyL at e1
  have hdl : ∀ (d : Nat → Nat) t, (dL d t).length = 8 := fun d t => rfl
  have l1 : (fl (dL d) (List.range 6)).length = (fl (dL d') (List.range 6)).length := by rw [fl_len (hdl d), fl_len (hdl d')]
  obtain ⟨e2, e3⟩ := List.append_inj e1 (by rw [List.length_append, List.length_append, l1]; rfl)
  obtain ⟨e4, _⟩ := List.append_inj e2 l1
  constructor
  · have f1 : ∀ d : Nat → Nat, fl (dL d) (List.range 6) = dL d 0 ++ (dL d 1 ++ (dL d 2 ++ (dL d 3 ++ (dL d 4 ++ dL d 5)))) := fun d => by
      simp [fl, List.range_succ]
    rw [f1, f1] at e4
    obtain ⟨g0, e4⟩ := List.append_inj e4 (by rw [hdl, hdl])
    obtain ⟨g1, e4⟩ := List.append_inj e4 (by rw [hdl, hdl])
    obtain ⟨g2, e4⟩ := List.append_inj e4 (by rw [hdl, hdl])
    obtain ⟨g3, e4⟩ := List.append_inj e4 (by rw [hdl, hdl])
    obtain ⟨g4, g5⟩ := List.append_inj e4 (by rw [hdl, hdl])
    have fin : ∀ t, t < 6 → dL d t = dL d' t → d t = d' t := fun t ht q => by
      have a := h.dn t ht; have b := h'.dn t ht
      have := le8_inj (x := ((d t : Nat) : Int)) (y := ((d' t : Nat) : Int)) (by unfold InR; omega) (by unfold InR; omega) q
      omega
    intro t ht
    rcases (show t = 0 ∨ t = 1 ∨ t = 2 ∨ t = 3 ∨ t = 4 ∨ t = 5 by omega) with r | r | r | r | r | r <;> subst r
    · exact fin _ ht g0
    · exact fin _ ht g1
    · exact fin _ ht g2
    · exact fin _ ht g3
    · exact fin _ ht g4
    · exact fin _ ht g5
  · cases k with
    | true =>
      simp only [if_true] at e3
      refine fl_inj (s := 16) (fun a => rfl) (by decide) (fun x => InR x.1 ∧ InR x.2) (fun a b ha hb q => ?_) A A' h.ok.rng h'.ok.rng e3
      obtain ⟨q1, q2⟩ := List.append_inj q rfl
      exact Prod.ext (le8_inj ha.1 hb.1 q1) (le8_inj ha.2 hb.2 q2)
    | false =>
      simp only [Bool.false_eq_true, if_false] at e3
      refine fl_inj (s := 8) (fun a => rfl) (by decide) (fun x => x.1 = 0 ∧ InR x.2) (fun a b ha hb q => ?_) A A' (fun x hx => ⟨h.z rfl x hx, (h.ok.rng x hx).2⟩) (fun x hx => ⟨h'.z rfl x hx, (h'.ok.rng x hx).2⟩) e3
      exact Prod.ext (ha.1.trans hb.1.symm) (le8_inj ha.2 hb.2 q)
theorem StR.ok {k : Bool} {N : Nat} {A : List (Int × Int)} {v : Value} {Z : List (Nat × Obj)} (h : StR k N A v Z) {d : Nat → Nat} (hd : ∀ t, t < 6 → d t ≤ 2000000) : SOk k d A := by
  cases h with
  | dq N A Z dv hz ho hv => exact ⟨hd, ho, fun _ => hz⟩
  | bf N A Z bv es ar hb ho hv => exact ⟨hd, ho, fun q => by cases q⟩
theorem keyS_spec {k : Bool} {N : Nat} {A : List (Int × Int)} {v : Value} {Z : List (Nat × Obj)} (h : StR k N A v Z) (d : Nat → Nat) (hd : ∀ t, t < 6 → d t ≤ 2000000) : SpK Tryz.prog 28 #[.agg ⟨arrL 6 (fun t => .int .i64 ((d t : Nat) : Int))⟩, v] (Mem Z) [] (fun u F' => u = .string (kyS k d A) ∧ F' = []) := by
  cases h with
  | dq N A Z dv hz ho hv =>
    obtain ⟨p, c, rfl⟩ := hv.sl
    have := key_spec d hd A ho.len Z p c hv [] (by simp) .nil none 0 (VwZ.nil _ _) 0
    have e : keyL d A [] = kyL false d A := by unfold keyL kyL; rw [show fl pvL [] = [] from rfl, List.append_nil]; rfl
    rw [e] at this
    exact this
  | bf N A Z bv es ar hb ho hv =>
    obtain ⟨p, c, rfl⟩ := hv.sl
    have := key_spec d hd [] (by simp) Z none 0 (VwZ.nil _ _) es (by have := ho.len; rw [hb.A, enA_len] at this; exact this) hb.srt p c hv (ar : Int)
    have e : keyL d [] es = kyL true d A := by unfold keyL kyL; rw [show fl vL [] = [] from rfl, List.append_nil, fl_pv, hb.A]; rfl
    rw [e] at this
    exact this

end Go.Proofs.Qxb6500914aGreat

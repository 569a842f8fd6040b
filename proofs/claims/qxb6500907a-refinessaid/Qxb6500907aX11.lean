import Derived.Test.Qxb6500907aX10
namespace Go.Proofs.Qxb6500907a
open Go.Eng
set_option linter.unusedVariables false
set_option linter.unusedSimpArgs false

/-! ## reading what was printed -/
def Br (l : List Int) : Prop := ∃ c r, l = c :: r ∧ (c = 32 ∨ c = 10 ∨ c = 47)
structure WdL (w : List Int) : Prop where
  sp : ∃ c r, w = c :: r ∧ letB c = true ∧ ∀ x, x ∈ r → alnB x = true
theorem letB_iff {c : Int} : letB c = true ↔ 97 ≤ c ∧ c ≤ 122 := by unfold letB; simp
theorem digB_iff {c : Int} : digB c = true ↔ 48 ≤ c ∧ c ≤ 57 := by unfold digB; simp
theorem not_aln {c : Int} (h : c = 32 ∨ c = 10 ∨ c = 47) : alnB c = false ∧ digB c = false := by
  have h1 : letB c = false := by rw [Bool.eq_false_iff, ne_eq, letB_iff]; omega
  have h2 : digB c = false := by rw [Bool.eq_false_iff, ne_eq, digB_iff]; omega
  exact ⟨aln_f h1 h2, h2⟩
theorem run_app {p : Int → Bool} : ∀ {a l : List Int}, (∀ x, x ∈ a → p x = true) → (∀ c r, l = c :: r → p c = false) → (a ++ l).takeWhile p = a ∧ (a ++ l).dropWhile p = l
  | [], l, _, hl => by
    cases l with
    | nil => exact ⟨rfl, rfl⟩
    | cons c r => rw [List.nil_append, List.takeWhile_cons_of_neg (by rw [hl c r rfl]; simp), List.dropWhile_cons_of_neg (by rw [hl c r rfl]; simp)]; exact ⟨rfl, rfl⟩
  | x :: a, l, ha, hl => by
    have hx := ha x List.mem_cons_self
    obtain ⟨e1, e2⟩ := run_app (a := a) (l := l) (fun y hy => ha y (List.mem_cons_of_mem _ hy)) hl
    rw [List.cons_append, List.takeWhile_cons_of_pos hx, List.dropWhile_cons_of_pos hx, e1, e2]; exact ⟨rfl, rfl⟩
theorem blk_of {c : Int} (h : 48 ≤ c) : blkB c = false := blk_f ⟨by omega, by omega, by omega⟩
theorem lex_word {w l : List Int} (hw : WdL w) (hb : Br l) : lexL (w ++ l) = ⟨some (.word w), 0, w ++ l, l⟩ := by
  obtain ⟨c, r, rfl, hc, hr⟩ := hw.sp
  obtain ⟨d, m, rfl, hd⟩ := hb
  have hcl := letB_iff.1 hc
  obtain ⟨e1, e2⟩ := run_app (p := alnB) (a := r) (l := d :: m) hr (fun c' r' e => by injection e with e _; rw [← e]; exact (not_aln hd).1)
  unfold lexL
  rw [List.cons_append, skL_cons, if_neg (by omega), if_neg (by rw [blk_of (by omega)]; simp)]
  show lexC c (r ++ d :: m) = _
  unfold lexC
  rw [if_neg (by omega), if_neg (by omega), if_pos hc, e1, e2]
theorem decF_app : ∀ (a b : List Int) (v m : Int), decF v a = some m → decF v (a ++ b) = decF m b
  | [], b, v, m, h => by injection h with h; rw [h]; rfl
  | d :: a, b, v, m, h => by
    unfold decF at h
    split at h
    · cases h
    · rename_i hn
      rw [List.cons_append]
      conv => lhs; unfold decF
      rw [if_neg hn]
      exact decF_app a b _ m h
theorem dec_dg : ∀ (k n : Nat), n < k → n ≤ 4294967295 → decF 0 (dg n) = some (n : Int)
  | 0, n, h, _ => absurd h (by omega)
  | k + 1, n, h, hn => by
    by_cases h9 : n < 10
    · rw [dg_lt h9]
      unfold decF
      rw [if_neg (by omega), show (0 : Int) * 10 + (48 + (n : Int) - 48) = n by omega]; rfl
    · rw [dg_ge h9, decF_app _ _ _ _ (dec_dg k (n / 10) (by omega) (by omega))]
      unfold decF
      rw [if_neg (by omega), show ((n / 10 : Nat) : Int) * 10 + (48 + ((n % 10 : Nat) : Int) - 48) = n by omega]; rfl
theorem dg_dig : ∀ (k n : Nat), n < k → ∀ x, x ∈ dg n → digB x = true
  | 0, n, h, _, _ => absurd h (by omega)
  | k + 1, n, h, x, hx => by
    by_cases h9 : n < 10
    · rw [dg_lt h9, List.mem_singleton] at hx
      rw [digB_iff]; omega
    · rw [dg_ge h9] at hx
      rcases List.mem_append.1 hx with hx | hx
      · exact dg_dig k (n / 10) (by omega) x hx
      · rw [List.mem_singleton] at hx; rw [digB_iff]; omega
theorem dg_d (n : Nat) : ∀ x, x ∈ dg n → digB x = true := dg_dig (n + 1) n (by omega)
theorem lex_num {n : Nat} {l : List Int} (hn : n ≤ 4294967295) (hb : Br l) : lexL (dg n ++ l) = ⟨some (.num n), 0, dg n ++ l, l⟩ := by
  obtain ⟨d, m, rfl, hd⟩ := hb
  have hp := dg_pos n
  have hdd := dec_dg (n + 1) n (by omega) hn
  have hall := dg_d n
  cases hq : dg n with
  | nil => rw [hq] at hp; simp at hp
  | cons c r =>
    rw [hq] at hdd hall
    have hc := digB_iff.1 (hall c List.mem_cons_self)
    obtain ⟨e1, e2⟩ := run_app (p := digB) (a := r) (l := d :: m) (fun x hx => hall x (List.mem_cons_of_mem _ hx)) (fun c' r' e => by injection e with e _; rw [← e]; exact (not_aln hd).2)
    unfold lexL
    rw [List.cons_append, skL_cons, if_neg (by omega), if_neg (by rw [blk_of (by omega)]; simp)]
    show lexC c (r ++ d :: m) = _
    unfold lexC
    rw [if_neg (by omega), if_neg (by omega), if_neg (by rw [letB_iff]; omega), if_pos (hall c List.mem_cons_self), e1, hdd, e2]
theorem lex_sp (l : List Int) : lexL (32 :: l) = lexL l := by
  unfold lexL
  rw [skL_cons, if_neg (by decide), if_pos (by decide)]
theorem lex_nl (l : List Int) : lexL (10 :: l) = ⟨some .nl, 0, 10 :: l, l⟩ := by
  unfold lexL
  rw [skL_cons, if_neg (by decide), if_neg (by decide)]
  show lexC 10 l = _
  unfold lexC; rw [if_pos rfl]
theorem lex_slash (l : List Int) : lexL (47 :: l) = ⟨some .slash, 0, 47 :: l, l⟩ := by
  unfold lexL
  rw [skL_cons, if_neg (by decide), if_neg (by decide)]
  show lexC 47 l = _
  unfold lexC; rw [if_neg (by decide), if_pos rfl]
theorem lex_nil : lexL [] = ⟨some .eof, 0, [], []⟩ := by unfold lexL; rw [skL_nil]
def Lk (l : List Int) : Prop := ∃ t, (lexL l).tok = some t
theorem Lk.sp {l : List Int} (h : Lk l) : Lk (32 :: l) := by unfold Lk; rw [lex_sp]; exact h
theorem Lk.nl (l : List Int) : Lk (10 :: l) := ⟨.nl, by rw [lex_nl]⟩
theorem Lk.slash (l : List Int) : Lk (47 :: l) := ⟨.slash, by rw [lex_slash]⟩
theorem Lk.word {w l : List Int} (hw : WdL w) (hb : Br l) : Lk (w ++ l) := ⟨.word w, by rw [lex_word hw hb]⟩
theorem Lk.num {n : Nat} {l : List Int} (hn : n ≤ 4294967295) (hb : Br l) : Lk (dg n ++ l) := ⟨.num n, by rw [lex_num hn hb]⟩
theorem Br.sp (l : List Int) : Br (32 :: l) := ⟨32, l, rfl, .inl rfl⟩
theorem Br.nl (l : List Int) : Br (10 :: l) := ⟨10, l, rfl, .inr (.inl rfl)⟩
theorem Br.slash (l : List Int) : Br (47 :: l) := ⟨47, l, rfl, .inr (.inr rfl)⟩
theorem WdL.dev (d : Nat) : WdL (114 :: dg d) := ⟨114, dg d, rfl, by decide, fun x hx => aln_d (dg_d d x hx)⟩
/-- the reader stands before the text l -/
structure Tx (z : ZS) (l : List Int) : Prop where
  er : z.err.isNone = true
  tok : (lexL l).tok = some z.tok
  rest : z.rest = (lexL l).rest
theorem Tx.sp {z : ZS} {l : List Int} (h : Tx z (32 :: l)) : Tx z l := ⟨h.er, by rw [← lex_sp]; exact h.tok, by rw [← lex_sp]; exact h.rest⟩
theorem Tx.adv {N : Nat} {z : ZS} {l : List Int} (he : z.err.isNone = true) (hr : z.rest = l) (hk : Lk l) : Tx (advZ N z) l := by
  obtain ⟨t, ht⟩ := hk
  unfold advZ
  rw [if_pos he, hr, ht]
  exact ⟨rfl, ht, rfl⟩
theorem T_word {N : Nat} {z : ZS} {w l : List Int} (h : Tx z (w ++ l)) (hw : WdL w) (hb : Br l) (hk : Lk l) : (wordZ N z).1 = bA w ∧ Tx (wordZ N z).2 l := by
  have e := lex_word hw hb
  have h1 := h.tok; have h2 := h.rest
  rw [e] at h1 h2
  injection h1 with h1
  have hk2 : z.tok.kind = 2 := by rw [← h1]; rfl
  rw [wordZ_w h.er hk2, ← h1]
  exact ⟨rfl, Tx.adv h.er h2 hk⟩
theorem T_kw {N : Nat} {z : ZS} {w l : List Int} {s1 s2 : ByteArray} (h : Tx z (w ++ l)) (hw : WdL w) (hb : Br l) (hk : Lk l) (hs : sEq (bA w) s1 = true ∨ sEq (bA w) s2 = true) : (kwZ N z s1 s2).1 = sEq (bA w) s1 ∧ Tx (kwZ N z s1 s2).2 l := by
  obtain ⟨e1, e2⟩ := T_word (N := N) h hw hb hk
  unfold kwZ
  rw [e1]
  refine ⟨rfl, ?_⟩
  simp only
  rw [if_neg (by rcases hs with hs | hs <;> simp [hs])]
  exact e2
theorem T_num {N : Nat} {z : ZS} {n : Nat} {l : List Int} {mx code : Int} (h : Tx z (dg n ++ l)) (hn : n ≤ 4294967295) (hm : (n : Int) ≤ mx) (hb : Br l) (hk : Lk l) : (numZ N z mx code).1 = (n : Int) ∧ Tx (numZ N z mx code).2 l := by
  have e := lex_num hn hb
  have h1 := h.tok; have h2 := h.rest
  rw [e] at h1 h2
  injection h1 with h1
  have hk3 : z.tok.kind = 3 := by rw [← h1]; rfl
  have hv : z.tok.val = (n : Int) := by rw [← h1]; rfl
  rw [numZ_n h.er hk3 (by omega), hv]
  exact ⟨rfl, Tx.adv h.er h2 hk⟩
theorem byteAt_bA {l : List Int} (hl : ∀ x, x ∈ l → 0 ≤ x ∧ x ≤ 255) : ∀ i, i < l.length → byteAt (bA l) i = gD l i := by
  have key : ∀ (l : List Int) (s : ByteArray), (∀ x, x ∈ l → 0 ≤ x ∧ x ≤ 255) → ∀ i, i < s.size + l.length → byteAt ((iv8 l).foldl (fun s v => s.push (u8Of v)) s) i = if i < s.size then byteAt s i else gD l (i - s.size) := by
    intro l
    induction l with
    | nil => intro s _ i hi; rw [if_pos (by simpa using hi)]; rfl
    | cons c l ih =>
      intro s hl i hi
      have hc := hl c List.mem_cons_self
      show byteAt ((iv8 l).foldl (fun s v => s.push (u8Of v)) (s.push (u8Of (.int .u8 c)))) i = _
      rw [ih _ (fun x hx => hl x (List.mem_cons_of_mem _ hx)) i (by rw [ByteArray.size_push]; rw [List.length_cons] at hi; omega), ByteArray.size_push]
      have hpush : ∀ (j : Nat), j < s.size + 1 → byteAt (s.push (u8Of (.int .u8 c))) j = if j < s.size then byteAt s j else c := by
        intro j hj
        unfold byteAt
        have hg : (s.push (u8Of (.int .u8 c)))[j]? = some ((s.push (u8Of (.int .u8 c)))[j]'(by rw [ByteArray.size_push]; exact hj)) := by
          show (if h : j < (s.push (u8Of (.int .u8 c))).size then some (s.push (u8Of (.int .u8 c)))[j] else none) = _
          rw [dif_pos (by rw [ByteArray.size_push]; exact hj)]
        rw [hg]
        by_cases q : j < s.size
        · rw [if_pos q]
          have hg2 : s[j]? = some (s[j]'q) := by
            show (if h : j < s.size then some s[j] else none) = _
            rw [dif_pos q]
          rw [hg2]
          have : (s.push (u8Of (.int .u8 c)))[j]'(by rw [ByteArray.size_push]; exact hj) = s[j]'q := by
            show (s.data.push (u8Of (.int .u8 c)))[j]'(by rw [Array.size_push]; exact hj) = s.data[j]'q
            exact Array.getElem_push_lt q
          rw [this]
        · rw [if_neg q]
          have hj2 : j = s.size := by omega
          subst hj2
          have : (s.push (u8Of (.int .u8 c)))[s.size]'(by rw [ByteArray.size_push]; exact hj) = u8Of (.int .u8 c) := by
            show (s.data.push (u8Of (.int .u8 c)))[s.data.size]'(by simp) = _
            exact Array.getElem_push_eq
          rw [this]
          show ((UInt8.ofNat c.toNat).toNat : Int) = c
          show (((c.toNat % 2 ^ 8 : Nat)) : Int) = c
          omega
      by_cases q : i < s.size + 1
      · rw [if_pos q, hpush i q]
        by_cases q2 : i < s.size
        · rw [if_pos q2, if_pos q2]
        · rw [if_neg q2, if_neg q2, show i - s.size = 0 by omega]; rfl
      · rw [if_neg q, if_neg (by omega)]
        have e : i - s.size = (i - (s.size + 1)) + 1 := by omega
        rw [e]; rfl
  intro i hi
  have := key l ByteArray.empty hl i (by simpa [ByteArray.size] using hi)
  rw [if_neg (by simp [ByteArray.size])] at this
  unfold bA bstr
  simpa [ByteArray.size] using this
theorem dev_rng9 (d : Nat) : ∀ x, x ∈ (114 :: dg d : List Int) → 0 ≤ x ∧ x ≤ 255 := fun x hx => by
  rcases List.mem_cons.1 hx with rfl | hx
  · exact ⟨by decide, by decide⟩
  · have := digB_iff.1 (dg_d d x hx); omega
theorem ds_bA (d : Nat) : dsW (bA (114 :: dg d)) = dg d := by
  unfold dsW
  rw [bA_size, List.length_cons, Nat.add_sub_cancel]
  apply List.ext_getElem?
  intro i
  by_cases hi : i < (dg d).length
  · rw [List.getElem?_map, List.getElem?_range hi]
    show some (byteAt (bA (114 :: dg d)) (i + 1)) = _
    rw [byteAt_bA (dev_rng9 d) (i + 1) (by rw [List.length_cons]; omega), gD_get hi]
    rfl
  · rw [List.getElem?_eq_none (by simp; omega), List.getElem?_eq_none (by omega)]
theorem devW_dg {d : Nat} (h : d < 16) : devW (bA (114 :: dg d)) = (d : Int) := by
  have hp := dg_pos d
  have h0 : ¬ ((bA (114 :: dg d)).size < 2 ∨ byteAt (bA (114 :: dg d)) 0 ≠ 114) := by
    rw [bA_size, List.length_cons, byteAt_bA (dev_rng9 d) 0 (by simp)]
    rintro (q | q)
    · omega
    · exact q rfl
  refine devW_4 h0 ?_ ?_ (by omega)
  · rw [ds_bA, List.all_eq_true]; exact dg_d d
  · rw [ds_bA]; exact dec_dg (d + 1) d (by omega) (by omega)
theorem T_dev {N : Nat} {z : ZS} {d : Nat} {l : List Int} (h : Tx z ((114 :: dg d) ++ l)) (hd : d < 16) (hb : Br l) (hk : Lk l) : (devZ N z).1 = (d : Int) ∧ Tx (devZ N z).2 l := by
  obtain ⟨e1, e2⟩ := T_word (N := N) h (WdL.dev d) hb hk
  rw [devZ_3 (n := (d : Int)) e2.er (by rw [e1]; exact devW_dg hd) (by omega)]
  exact ⟨rfl, e2⟩
theorem T_pre {N : Nat} {z : ZS} {x n : Nat} {l : List Int} (h : Tx z (dg x ++ (47 :: (dg n ++ l)))) (hx : x ≤ 255) (hn : n ≤ 8) (hg : gpF (x : Int) (n : Int) = true) (hb : Br l) (hk : Lk l) : (prefZ N z).1 = ((x : Int), (n : Int)) ∧ Tx (prefZ N z).2 l := by
  obtain ⟨e1, e2⟩ := T_num (N := N) (mx := 255) (code := 7) h (by omega) (by omega) (Br.slash _) (Lk.slash _)
  have hs := lex_slash (dg n ++ l)
  have h1 := e2.tok; have h2 := e2.rest
  rw [hs] at h1 h2
  injection h1 with h1
  have hsl : slZ (numZ N z 255 7).2 = (numZ N z 255 7).2 := slZ_f (.inr (by rw [← h1]; rfl))
  have e3 : Tx (advZ N (slZ (numZ N z 255 7).2)) (dg n ++ l) := by rw [hsl]; exact Tx.adv e2.er h2 (Lk.num (by omega) hb)
  obtain ⟨e4, e5⟩ := T_num (N := N) (mx := 8) (code := 7) e3 (by omega) (by omega) hb hk
  unfold prefZ
  rw [e1, e4, if_pos hg]
  exact ⟨rfl, e5⟩
theorem bl_stop {N : Nat} {z : ZS} (h : z.tok.kind ≠ 1) : blZ N z = z := by unfold blZ; exact blF_stop _ _ (fun q => h q.2)
theorem T_eol {N : Nat} {z : ZS} {l : List Int} (h : Tx z (10 :: l)) (hk : Lk l) (h1 : ∀ t, (lexL l).tok = some t → t.kind ≠ 1) : Tx (eolZ N z) l := by
  have e := lex_nl l
  have h2 := h.tok; have h3 := h.rest
  rw [e] at h2 h3
  injection h2 with h2
  have hk1 : z.tok.kind = 1 := by rw [← h2]; rfl
  have ha : Tx (advZ N z) l := Tx.adv h.er h3 hk
  have hst : (advZ N z).tok.kind ≠ 1 := h1 _ ha.tok
  unfold eolZ
  rw [eoZ_f (.inr hk1)]
  unfold blZ
  rw [blF_go _ _ h.er hk1 (by omega), blF_stop _ _ (fun q => hst q.2)]
  exact ha
/-! ## a change that was printed -/
structure CkO (c : Ch) : Prop where
  kd : 0 ≤ c.kd ∧ c.kd < 6
  dv : 0 ≤ c.dv ∧ c.dv < 16
  via : c.kd = 0 → 0 ≤ c.via ∧ c.via ≤ 16
  cl : c.kd = 2 → 0 ≤ c.cl ∧ c.cl ≤ 16
  pr : c.kd = 4 ∨ c.kd = 5 → 0 ≤ c.pr ∧ c.pr < 16
  lt : c.kd = 4 → c.dv < c.pr
  g1 : gpF c.ra c.rl = true
  g2 : gpF c.da c.dl = true
  ix : 0 ≤ c.ix ∧ c.ix < 64
  use : c = useF c
theorem gp_len {x l : Int} (h : gpF x l = true) : l ≤ 8 := by
  unfold gpF at h
  rw [Bool.and_eq_true] at h
  exact of_decide_eq_true h.1
theorem lits_inj {c d : Ch} (h : c.lits = d.lits) : c = d := by
  obtain ⟨_, _, _, _, _, _, _, _, _, _, _, _⟩ := c
  obtain ⟨_, _, _, _, _, _, _, _, _, _, _, _⟩ := d
  simp only [Ch.lits, List.cons.injEq, Lit.int.injEq, Lit.bool.injEq, true_and, and_true] at h
  obtain ⟨rfl, rfl, rfl, rfl, rfl, rfl, rfl, rfl, rfl, rfl, rfl, rfl⟩ := h
  rfl
theorem use_ok {c : Ch} (h : c.ok) : (useF c).ok := by
  obtain ⟨h1, h2, h3, h4, h5, h6, h7, h8, h9, h10⟩ := h
  unfold useF
  split
  · constructor <;> (simp only; omega)
  · split
    · constructor <;> (simp only; omega)
    · split
      · constructor <;> (simp only; omega)
      · split
        · constructor <;> (simp only; omega)
        · constructor <;> (simp only; omega)
def dsC : List TypeDesc := [.int .u8, .int .u8, .int .u8, .int .u8, .bool, .int .u8, .int .u8, .int .u8, .bool, .int .u8, .int .u8, .int .u8]
theorem lits_fit {c : Ch} (h : c.ok) : LitsOk dsC c.lits := by
  obtain ⟨h1, h2, h3, h4, h5, h6, h7, h8, h9, h10⟩ := h
  simp [dsC, Ch.lits, LitsOk, litOk, Fits]
  omega
theorem ck_out {c : Ch} (hok : c.ok) (h : ckF c = 0) : CkO c := by
  have hok' := hok
  obtain ⟨h1, h2, h3, h4, h5, h6, h7, h8, h9, h10⟩ := hok'
  unfold ckF at h
  split at h; (exact absurd h (by decide)); rename_i a1
  split at h; (exact absurd h (by decide)); rename_i a2
  split at h; (exact absurd h (by decide)); rename_i a3
  split at h; (exact absurd h (by decide)); rename_i a4
  split at h; (exact absurd h (by decide)); rename_i a5
  split at h; (exact absurd h (by decide)); rename_i a6
  split at h; (exact absurd h (by decide)); rename_i a7
  split at h; (exact absurd h (by decide)); rename_i a8
  split at h; (exact absurd h (by decide)); rename_i a9
  split at h; (exact absurd h (by decide)); rename_i a10
  have g1 : gpF c.ra c.rl = true := by
    cases hq : gpF c.ra c.rl
    · exact absurd (.inl hq) a8
    · rfl
  have g2 : gpF c.da c.dl = true := by
    cases hq : gpF c.da c.dl
    · exact absurd (.inr hq) a8
    · rfl
  have hu : eqLits c.lits (useF c).lits = true := by
    cases hq : eqLits c.lits (useF c).lits
    · exact absurd hq a10
    · rfl
  have hl := (eqLits_iff (lits_fit hok) (lits_fit (use_ok hok))).1 hu
  exact ⟨⟨h1.1, by omega⟩, ⟨h2.1, by omega⟩, fun q => ⟨h7.1, by omega⟩, fun q => ⟨h10.1, by omega⟩, fun q => ⟨h3.1, by omega⟩, fun q => by omega, g1, g2, ⟨h4.1, by omega⟩, lits_inj hl⟩

end Go.Proofs.Qxb6500907a

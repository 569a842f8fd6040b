import Derived.Test.Qxb6500912aGreatDoorZ27
namespace Go.Proofs.Qxb6500912aGreatDoor
open Go.Eng
set_option linter.unusedVariables false
set_option linter.unusedSimpArgs false

/-! ## the model in memory -/
def MM (Z : List (Nat × Obj)) (mp : Nat) (m : CS) (st : Int) (sk : Bool) (os : List Bk) : Prop :=
  ∃ bp bu bn p c E, Row (.slice p os.length c) os.length (fl (bkc (seqM st m.una)) os) 2 73 E ∧ (sk = true → bu = seqM st m.una ∧ bn = seqM st m.nxt) ∧ Z = (mp, C (encM m st sk bp) 69) :: (bp, C (bdL bu bn (.slice p os.length c)) 85) :: E
section mm
variable {Z : List (Nat × Obj)} {mp : Nat} {m : CS} {st : Int} {sk : Bool} {os : List Bk}
theorem get_mm {f : FuncId} {args : Array Value} {R : Value → List (Nat × Obj) → Prop} (h : MM Z mp m st sk os) (hg : ∀ bp, SpK Tryz.prog f args (fun w => w.heap[mp]? = some (C (encM m st sk bp) 69)) [] R) : SpK Tryz.prog f args (Mem Z) [] R := by
  obtain ⟨bp, bu, bn, p, c, E, hR, hb, rfl⟩ := h
  exact spk_weak (hg bp) (fun w h => h _ _ (by simp)) (fun _ _ h => h)
theorem turn_mm {f : FuncId} {args : Array Value} {m' : CS} (h : MM Z mp m st sk os) (hu : m'.una = m.una) (hn : m'.nxt = m.nxt) (hg : ∀ bp, Sp Tryz.prog f args [(mp, C (encM m st sk bp) 69)] (fun v F' => v = .tuple #[] ∧ F' = [(mp, C (encM m' st sk bp) 69)])) : Sp Tryz.prog f args Z (fun v F' => v = .tuple #[] ∧ MM F' mp m' st sk os) := by
  obtain ⟨bp, bu, bn, p, c, E, hR, hb, rfl⟩ := h
  refine spk_weak (spk_frame (hg bp) ((bp, C (bdL bu bn (.slice p os.length c)) 85) :: E)) (fun w h => h) (fun v F' ⟨F1, ⟨a, b⟩, e⟩ => ⟨a, bp, bu, bn, p, c, E, ?_, ?_, ?_⟩)
  · rw [hu]; exact hR
  · rw [hu, hn]; exact hb
  · rw [e, b]; rfl
theorem rto_mm (h : MM Z mp m st sk os) (hm : Mk m) (hd : m.credit ≤ 1073741824) : Sp Tryz.prog 23 #[.pointer (some ⟨mp, 0, none⟩)] Z (fun v F' => v = .tuple #[] ∧ MM F' mp (rtoM m) st sk os) :=
  turn_mm h (rtoM_nd hm.dups.1 hd).2.1 (rtoM_nd hm.dups.1 hd).1 (fun bp => rto_m mp m st sk bp hm)
theorem idle_mm (h : MM Z mp m st sk os) (hm : Mk m) (hd : m.credit ≤ 1073741824) : Sp Tryz.prog 25 #[.pointer (some ⟨mp, 0, none⟩)] Z (fun v F' => v = .tuple #[] ∧ MM F' mp (idleM m) st sk os) :=
  turn_mm h (idleM_nd hd).2.1 (idleM_nd hd).1 (fun bp => idle_m mp m st sk bp hm)
theorem sent_mm (h : MM Z mp m st sk os) (hm : Mk m) (k off n : Int) (hof : -1152921504606846976 ≤ off ∧ off ≤ 2305843009213693952) (hn : 0 ≤ n ∧ n ≤ 4294967295) (hnx : m.nxt + 4294967296 ≤ 1152921504606846976) :
    Sp Tryz.prog 17 #[.pointer (some ⟨mp, 0, none⟩), .agg ⟨[.int .u8 k, .int .i64 off, .int .i64 n]⟩] Z (fun v F' => v = .tuple #[] ∧ MM F' mp (sentM m k off n) st sk os) := by
  obtain ⟨bp, bu, bn, p, c, E, hR, hb, rfl⟩ := h
  refine spk_weak (spk_frame (sent_m mp m st sk bp hm bu bn (.slice p os.length c) k off n hof hn hnx) E) (fun w h => h) (fun v F' ⟨F1, ⟨a, b⟩, e⟩ => ⟨a, bp, bu, sentN m st bn k off n, p, c, E, ?_, ?_, ?_⟩)
  · rw [sentM_nd.2.2]; exact hR
  · intro hk
    obtain ⟨h1, h2⟩ := hb hk
    refine ⟨by rw [sentM_nd.2.2]; exact h1, ?_⟩
    unfold sentN sentM
    split
    · rfl
    split
    · exact h2
    split
    · exact h2
    · exact h2
  · rw [e, b]; rfl
theorem ack_mm (h : MM Z mp m st sk os) (hm : Mk m) (hcr : m.credit ≤ 1073741824) (hdp : m.dups + 1 ≤ 1152921504606846976) (f : Nat) (hf : m.nxt - m.una = (f : Int)) (hos : BInv f os) (hlen : os.length ≤ 16) (hnb : sk = false → os = []) (ack : Int) (hak : -4611686018427387904 ≤ ack ∧ ack ≤ 4611686018427387904) (hwk : sk = true → ack = m.una → f ≤ 262144) (dup : Bool) (bks : List (Int × Int)) (hbk : bks.length ≤ 100000) (pS : Option Addr) (cS : Nat) (Es : List (Nat × Obj)) (hRs : Row (.slice pS bks.length cS) bks.length (fl pc bks) 2 73 Es) (hdis : ∀ x, x ∈ Es → x.1 ∉ List.map Prod.fst Z) :
    SpK Tryz.prog 21 #[.pointer (some ⟨mp, 0, none⟩), .int .i64 ack, .bool dup, .slice pS bks.length cS] (Mem Es) Z (fun v F' => v = .tuple #[] ∧ ∃ m' os', AckMT m st sk f os ack dup bks m' os' ∧ MM F' mp m' st sk os') := by
  obtain ⟨bp, bu, bn, p, c, E, hR, hb, rfl⟩ := h
  cases hk : sk with
  | false =>
    obtain rfl := hnb hk
    subst hk
    refine spk_weak (spk_frame (ack_n mp m st false bp hm rfl hcr hdp ack hak dup false (.slice pS bks.length cS)) ((bp, C (bdL bu bn (.slice p 0 c)) 85) :: E)) (fun w h => trivial) (fun v F' ⟨F1, ⟨a, b⟩, e⟩ => ⟨a, _, [], .inl ⟨rfl, rfl, rfl⟩, bp, bu, bn, p, c, E, hR, (fun h9 => by cases h9), by rw [e, b]; rfl⟩)
  | true =>
    subst hk
    obtain ⟨rfl, rfl⟩ := hb rfl
    refine spk_weak (ack_s mp m st true bp hm rfl hcr hdp f hf os hos hlen p c E hR ack hak (hwk rfl) dup bks hbk pS cS Es hRs hdis) (fun w h => h) (fun v F' ⟨a, os', n, bv', E', h1, h2, h3⟩ => ?_)
    obtain ⟨p', c', rfl⟩ := row_val h2
    exact ⟨a, _, os', .inr ⟨rfl, n, h1, rfl⟩, bp, _, _, p', c', E', h2, fun _ => ⟨rfl, rfl⟩, h3⟩
theorem new_mm (c : CF) (hc : CFok c) (hv : CV c) : Sp Tryz.prog 6 #[.agg ⟨cfL c⟩] [] (fun v F' => ∃ mp, v = .pointer (some ⟨mp, 0, none⟩) ∧ MM F' mp (newMP c) c.start c.sack []) := by
  refine spk_weak (new_m c hc hv) (fun w h => h) (fun v F' ⟨mp, bp, a, b⟩ => ⟨mp, a, bp, c.start, c.start, none, 0, [], Row.nil _ _, fun _ => ?_, b⟩)
  have hs := hc.start
  have e0 : c.start = seqM c.start 0 := by unfold seqM; omega
  exact ⟨e0, e0⟩
/-! what both sides say -/
variable {B D : Int} {t : St}
theorem far_no (h : farM m sk = false) (hw : sk = true ∨ m.phase = 2) : m.nxt - m.una ≤ 262144 := by
  rw [← far_2 hw] at h
  have := of_decide_eq_false h; omega
theorem next_mm (h : MM Z mp m st sk os) (hi : PI B D t m st) (hk : sk = t.cfg.sack) (ho : os = t.os) (hfar : farM m sk = false) (fresh : Int) (hfr : U fresh) :
    SpK Tryz.prog 13 #[.pointer (some ⟨mp, 0, none⟩), .int .i64 fresh] (Mem Z) [] (fun v F' => (∃ off, v = .agg ⟨[.int .u8 (nextP t.s t.ns t.bl fresh).k, .int .i64 off, .int .i64 (nextP t.s t.ns t.bl fresh).n]⟩ ∧ (¬ (nextP t.s t.ns t.bl fresh).k = 0 → (nextP t.s t.ns t.bl fresh).q = seqM st off ∧ m.una ≤ off ∧ off ≤ m.nxt)) ∧ F' = []) := by
  have hm := hi.hm
  have h1 := hm.high; have hfl := hi.fl; have hu := hm.una; have hmf := hm.fl; have hmm := hm.mss
  subst ho
  have hns : t.ns = !sk := by unfold St.ns; rw [hk]
  have hnb := hi.nb hk
  obtain ⟨hh, hhe⟩ : ∃ hh : Nat, m.high - m.una = (hh : Int) := ⟨(m.high - m.una).toNat, by omega⟩
  rw [hns]
  by_cases hw : sk = true ∨ m.phase = 2
  · have hf9 := far_no hfar hw
    obtain ⟨bp, bu, bn, p, c, E, hR, hb, rfl⟩ := h
    refine spk_weak (nxt_w mp m st sk bp hm _ hfl (by omega) t.os hi.si.bi hi.si.l16 bn p c E hR hh hhe hw fresh ⟨hfr.1, by have := hfr.2; omega⟩) (fun w h => ⟨h _ _ (by simp), fun h9 => ?_, fun b o m => h _ _ (by simp [m])⟩) ?_
    · have := h _ _ (List.mem_cons_of_mem _ (List.mem_cons_self ..))
      rw [(hb h9).1] at this; exact this
    · rintro v F' ⟨⟨k, off, n, rfl, hN⟩, rfl⟩
      obtain ⟨e1, e2, e3⟩ := next_same_w hi.rel hm hfl hhe hi.si.bi hi.si.l16 hi.si.ok.una hnb hw hfr.1 hN
      refine ⟨⟨off, ?_, fun h9 => ?_⟩, rfl⟩
      · show Value.agg ⟨[.int .u8 k, .int .i64 off, .int .i64 n]⟩ = Value.agg ⟨[.int .u8 (nextP t.s (!sk) (t.os.map (Bk.ab t.s.una)) fresh).k, .int .i64 off, .int .i64 (nextP t.s (!sk) (t.os.map (Bk.ab t.s.una)) fresh).n]⟩
        rw [e1, e2]
      · have h8 : ¬ k = 0 := by rw [← e1]; exact h9
        refine ⟨e3 h8, ?_⟩
        rcases hN with ⟨_, _, rfl, _⟩ | ⟨_, k', off', n', h2, h3⟩
        · exact ⟨Int.le_refl _, hu.2⟩
        · rcases h3 with ⟨_, z1, _⟩ | ⟨_, rfl, rfl, rfl⟩
          · exact absurd z1 h8
          · rcases h2 with ⟨q, n, _, _, q1, _, _, _, _, _, rfl, _⟩ | ⟨_, ⟨_, _, rfl, _⟩ | ⟨_, _, z1, _⟩ | ⟨_, _, ⟨q, n, tt, _, q2, q1, _, _, _, _, _, rfl, _⟩ | ⟨_, ⟨q, n, _, q1, _, _, q2, _, rfl, _⟩ | ⟨_, z1, _⟩⟩⟩⟩
            · omega
            · omega
            · exact absurd z1 h8
            · omega
            · obtain ⟨d1, d2, _⟩ := q2
              have := (d2 (n - 1) (by omega)).1
              omega
            · exact absurd z1 h8
  · have hw2 : sk = false ∧ ¬ m.phase = 2 := ⟨by cases sk with | false => rfl | true => exact absurd (.inl rfl) hw, fun h9 => hw (.inr h9)⟩
    refine spk_weak (get_mm h fun bp => nxt_n mp m st sk bp hm hw2.1 hw2.2 fresh ⟨hfr.1, by have := hfr.2; omega⟩) (fun w h => h) ?_
    rintro v F' ⟨⟨k, off, n, rfl, hN⟩, rfl⟩
    obtain ⟨e1, e2, e3⟩ := next_same_n hi.rel hm hfl hi.si.bi hi.si.l16 hi.si.ok.una hnb hw2 hN
    refine ⟨⟨off, ?_, fun h9 => ?_⟩, rfl⟩
    · show Value.agg ⟨[.int .u8 k, .int .i64 off, .int .i64 n]⟩ = Value.agg ⟨[.int .u8 (nextP t.s (!sk) (t.os.map (Bk.ab t.s.una)) fresh).k, .int .i64 off, .int .i64 (nextP t.s (!sk) (t.os.map (Bk.ab t.s.una)) fresh).n]⟩
      rw [e1, e2]
    · have h8 : ¬ k = 0 := by rw [← e1]; exact h9
      refine ⟨e3 h8, ?_⟩
      rcases hN with ⟨_, _, rfl, _⟩ | ⟨_, k', off', n', h2, h3⟩
      · exact ⟨Int.le_refl _, hu.2⟩
      · rcases h3 with ⟨_, z1, _⟩ | ⟨_, rfl, rfl, rfl⟩
        · exact absurd z1 h8
        · rcases h2 with ⟨_, _, rfl, _⟩ | ⟨_, z1, _⟩
          · exact ⟨hu.2, Int.le_refl _⟩
          · exact absurd z1 h8
theorem view_mm (h : MM Z mp m st sk os) (hi : PI B D t m st) (hD : D < 4294967296) (hk : sk = t.cfg.sack) (ho : os = t.os) (hfar : farM m sk = false) :
    SpK Tryz.prog 27 #[.pointer (some ⟨mp, 0, none⟩)] (Mem Z) [] (fun v F' => v = .agg ⟨vwc (viewP t.s t.ns t.bl)⟩ ∧ F' = []) := by
  have hm := hi.hm
  have hfl := hi.fl; have hdp := hi.dp
  subst ho
  have hns : t.ns = !sk := by unfold St.ns; rw [hk]
  have hnb := hi.nb hk
  have hpp := pipeP_same hi.rel hm hfl hi.si.bi hi.si.l16 hi.si.ok.una hnb
  have key : ∀ q, q = pipeP t.s t.ns t.bl → (Value.agg ⟨[.int .u32 m.cwnd, .int .u32 m.ssth, .int .u32 (m.nxt - m.una), .int .u32 q, .int .u32 m.dups, .int .u8 m.phase, .bool m.forced]⟩ : Value) = .agg ⟨vwc (viewP t.s t.ns t.bl)⟩ := fun q hq => by
    unfold viewP vwc
    simp only
    rw [hq, hi.rel.win.1, hi.rel.win.2.1, hi.rel.win.2.2.2.1, hi.rel.win.2.2.2.2, hi.rel.fl.1, hi.rel.flight hm]
  by_cases hw : sk = true ∨ m.phase = 2
  · have hf9 := far_no hfar hw
    obtain ⟨bp, bu, bn, p, c, E, hR, hb, rfl⟩ := h
    refine spk_weak (view_w mp m st sk bp hm _ hfl (by omega) t.os hi.si.bi hi.si.l16 bn p c E hR hw (by omega)) (fun w h => ⟨h _ _ (by simp), fun h9 => ?_, fun b o m => h _ _ (by simp [m])⟩) ?_
    · have := h _ _ (List.mem_cons_of_mem _ (List.mem_cons_self ..))
      rw [(hb h9).1] at this; exact this
    · rintro v F' ⟨rfl, rfl⟩
      exact ⟨key _ (by rw [hns]; exact (hpp.1 hw).symm), rfl⟩
  · have hw2 : sk = false ∧ ¬ m.phase = 2 := ⟨by cases sk with | false => rfl | true => exact absurd (.inl rfl) hw, fun h9 => hw (.inr h9)⟩
    refine spk_weak (get_mm h fun bp => view_n mp m st sk bp hm hw2.1 hw2.2 (by omega)) (fun w h => h) ?_
    rintro v F' ⟨rfl, rfl⟩
    exact ⟨key _ (by rw [hns]; exact (hpp.2 hw2).symm), rfl⟩
theorem una_mm (h : MM Z mp m st sk os) (hm : Mk m) : SpK Tryz.prog 10 #[.pointer (some ⟨mp, 0, none⟩)] (Mem Z) [] (fun v F' => v = .int .i64 m.una ∧ F' = []) := get_mm h fun bp => una_m mp m st sk bp hm
theorem nxt_mm (h : MM Z mp m st sk os) (hm : Mk m) : SpK Tryz.prog 9 #[.pointer (some ⟨mp, 0, none⟩)] (Mem Z) [] (fun v F' => v = .int .i64 m.nxt ∧ F' = []) := get_mm h fun bp => nxt_m mp m st sk bp hm
theorem seq_mm (h : MM Z mp m st sk os) (hm : Mk m) (x : Int) : SpK Tryz.prog 14 #[.pointer (some ⟨mp, 0, none⟩), .int .i64 x] (Mem Z) [] (fun v F' => v = .int .u32 (seqM st x) ∧ F' = []) := get_mm h fun bp => seq_m mp m st sk bp hm x
end mm

end Go.Proofs.Qxb6500912aGreatDoor

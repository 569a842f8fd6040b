import Derived.Test.Qxb6500914aGreatI1
namespace Go.Proofs.Qxb6500914aGreat
open Go.Eng
set_option linter.unusedVariables false
set_option linter.unusedSimpArgs false
theorem cal13 : callable Tryz.prog 13 = true := by kernel_rfl
theorem zero43 : zeroOk Tryz.prog 43 (.agg #[(.int .u8 0), (.int .u8 0), (.int .u64 0), (.int .u64 0)]) := by unfold zeroOk; kernel_rfl
theorem cal14 : callable Tryz.prog 14 = true := by kernel_rfl
theorem cal6 : callable Tryz.prog 6 = true := by kernel_rfl
theorem cal7 : callable Tryz.prog 7 = true := by kernel_rfl
theorem cal11 : callable Tryz.prog 11 = true := by kernel_rfl
attribute [local irreducible] encM encP

/-- the steps of a thread alone -/
def soloN (t : Nat) : Nat → WS → Nat × WS
  | 0, W => (0, W)
  | n + 1, W => if (W.run t).isSome then ((soloN t n (stepW W t)).1 + 1, (soloN t n (stepW W t)).2) else (0, W)
def playN (W : WS) (o : SOp) : WS := if (o.kd : Int) = 8 then stepW W o.th else if (o.kd : Int) = 9 then (soloN o.th 64 W).2 else if (o.kd : Int) ≤ 7 ∧ o.th < 6 ∧ (W.run o.th).isSome = false then invokeW W o.th o.kd o.u o.v else W
def stepsN : Nat → WS → WS
  | 0, W => W
  | n + 1, W => stepW (stepsN n W) n
def runN : Nat → WS → WS
  | 0, W => W
  | n + 1, W => if quietW W then W else runN n (stepsN 6 W)
/-- an invariant of the world -/
structure Keep (I : WS → Prop) : Prop where
  wi : ∀ W, I W → WI W
  step : ∀ W t, I W → (W.run t).isSome = true → I (stepW W t)
  inv : ∀ W t kd u v, I W → W.run t = none → t < 6 → 0 ≤ kd → kd ≤ 7 → InR u → InR v → I (invokeW W t kd u v)
/-- nobody looks on -/
def noEye (wb b kb : Nat) {I : WS → Prop} (h : Keep I) : Eye wb b kb where
  X := Unit
  ev := .nilIface
  ey := fun _ => []
  Good := fun W _ => I W
  st := fun _ _ x => x
  iv := fun _ _ x => x
  wi := fun W _ hI => h.wi W hI
  step_ok := fun W _ t hI hb => h.step W t hI hb
  inv_ok := fun W _ t kd u v hI h1 h2 h3 h4 h5 h6 => h.inv W t kd u v hI h1 h2 h3 h4 h5 h6
  sees := .inl ⟨rfl, fun _ _ _ => ⟨rfl, rfl⟩⟩
def nox (wb b kb : Nat) {I : WS → Prop} (h : Keep I) : (noEye wb b kb h).X := ()
theorem noEye_solo (wb b kb : Nat) {I : WS → Prop} (h : Keep I) (t : Nat) (x : (noEye wb b kb h).X) : ∀ n W, ((noEye wb b kb h).solo t n W x).1 = (soloN t n W).1 ∧ ((noEye wb b kb h).solo t n W x).2.1 = (soloN t n W).2
  | 0, W => ⟨rfl, rfl⟩
  | n + 1, W => by
    have ih := noEye_solo wb b kb h t x n (stepW W t)
    have e : (noEye wb b kb h).stepX W t x = x := rfl
    simp only [Eye.solo, soloN]
    split
    · exact ⟨by rw [e, ih.1], by rw [e, ih.2]⟩
    · exact ⟨rfl, rfl⟩
theorem noEye_play (wb b kb : Nat) {I : WS → Prop} (h : Keep I) (W : WS) (x : (noEye wb b kb h).X) (o : SOp) : ((noEye wb b kb h).play W x o.kd o.th o.u o.v).1 = playN W o := by
  unfold Eye.play playN
  split
  · rfl
  · split
    · exact (noEye_solo wb b kb h o.th x 64 W).2
    · split <;> rfl
theorem noEye_steps (wb b kb : Nat) {I : WS → Prop} (h : Keep I) (x : (noEye wb b kb h).X) : ∀ n W, ((noEye wb b kb h).steps n W x).1 = stepsN n W
  | 0, W => rfl
  | n + 1, W => by
    show stepW ((noEye wb b kb h).steps n W x).1 n = stepW (stepsN n W) n
    rw [noEye_steps wb b kb h x n W]
theorem noEye_run (wb b kb : Nat) {I : WS → Prop} (h : Keep I) : ∀ n W x, ((noEye wb b kb h).runOut n W x).1 = runN n W
  | 0, W, x => rfl
  | n + 1, W, x => by
    simp only [Eye.runOut, runN]
    split
    · rfl
    · rw [noEye_run wb b kb h n, noEye_steps]
theorem keepWI : Keep WI := ⟨fun _ h => h, fun W t h _ => h.step t, fun W t kd u v h _ ht _ _ _ _ => h.inv t ht kd u v⟩
theorem Keep.steps {I : WS → Prop} (h : Keep I) (W : WS) (t : Nat) (hI : I W) : I (stepW W t) := by
  cases hb : (W.run t).isSome
  · rw [stepW_idle hb]; exact hI
  · exact h.step W t hI hb
theorem Keep.solo {I : WS → Prop} (h : Keep I) (t : Nat) : ∀ n W, I W → I (soloN t n W).2 ∧ LW (soloN t n W).2 = LW W
  | 0, W, hI => ⟨hI, rfl⟩
  | n + 1, W, hI => by
    simp only [soloN]
    split
    · rename_i hb
      have := h.solo t n (stepW W t) (h.steps W t hI)
      exact ⟨this.1, this.2.trans (LW_step W t (h.wi W hI))⟩
    · exact ⟨hI, rfl⟩
theorem Keep.play {I : WS → Prop} (h : Keep I) (W : WS) (o : SOp) (ho : o.ok) (hI : I W) : I (playN W o) ∧ LW (playN W o) ≤ LW W + 2 := by
  unfold playN
  split
  · exact ⟨h.steps W _ hI, by rw [LW_step W _ (h.wi W hI)]; omega⟩
  · split
    · have := h.solo o.th 64 W hI
      exact ⟨this.1, by rw [this.2]; omega⟩
    · split
      · rename_i hc
        have hn : W.run o.th = none := by simpa using hc.2.2
        have h1 := ho.u; have h2 := ho.v
        exact ⟨h.inv W o.th o.kd o.u o.v hI hn hc.2.1 (by omega) hc.1 ⟨by omega, by omega⟩ ⟨by omega, by omega⟩, by rw [LW_inv W _ _ _ _ hc.2.1 hn]; omega⟩
      · exact ⟨hI, by omega⟩
def playsN (W : WS) (os : List SOp) : WS := os.foldl playN W
theorem Keep.plays {I : WS → Prop} (h : Keep I) : ∀ (os : List SOp) (W : WS), (∀ o, o ∈ os → o.ok) → I W → I (playsN W os) ∧ LW (playsN W os) ≤ LW W + 2 * os.length
  | [], W, _, hI => ⟨hI, by show LW W ≤ LW W + 0; omega⟩
  | o :: os, W, ho, hI => by
    have h1 := h.play W o (ho o (List.mem_cons_self ..)) hI
    have h2 := h.plays os (playN W o) (fun q m => ho q (List.mem_cons_of_mem _ m)) h1.1
    refine ⟨h2.1, ?_⟩
    have h3 := h2.2
    have h4 := h1.2
    show LW (playsN (playN W o) os) ≤ _
    rw [List.length_cons]; omega
theorem plays_take {W : WS} {os : List SOp} {i : Nat} {o : SOp} (h : os[i]? = some o) : playsN W (os.take (i + 1)) = playN (playsN W (os.take i)) o := by
  unfold playsN
  rw [List.take_add_one, h]
  simp
/-- the run ends -/
theorem steps_keep : ∀ n W, WI W → WI (stepsN n W) ∧ phi (stepsN n W) ≤ phi W ∧ (∀ s, n ≤ s → (stepsN n W).run s = W.run s)
  | 0, W, h => ⟨h, Nat.le_refl _, fun _ _ => rfl⟩
  | n + 1, W, h => by
    obtain ⟨h1, h2, h3⟩ := steps_keep n W h
    refine ⟨h1.step n, Nat.le_trans (phi_mono h1 n) h2, fun s hs => ?_⟩
    show (stepW (stepsN n W) n).run s = _
    cases hx : (stepsN n W).run n with
    | none => rw [stepW_idle (by rw [hx]; rfl)]; exact h3 s (by omega)
    | some x => rw [(stepW_some hx).2, updF_ne _ _ (by omega)]; exact h3 s (by omega)
theorem steps_less (W : WS) (h : WI W) (s : Nat) (hb : (W.run s).isSome = true) : ∀ n, s < n → phi (stepsN n W) + 1 ≤ phi W
  | 0, hs => absurd hs (by omega)
  | n + 1, hs => by
    obtain ⟨h1, h2, h3⟩ := steps_keep n W h
    show phi (stepW (stepsN n W) n) + 1 ≤ _
    by_cases e : s = n
    · subst e
      have := phi_step h1 s (by rw [h3 s (Nat.le_refl _)]; exact hb)
      omega
    · have := steps_less W h s hb n (by omega)
      have := phi_mono h1 n
      omega
theorem quiet_none {W : WS} (h : quietW W = true) (t : Nat) (ht : t < 6) : W.run t = none := by
  unfold quietW at h
  rw [List.all_eq_true] at h
  have := h t (List.mem_range.2 ht)
  simpa using this
theorem not_quiet {W : WS} (h : quietW W = false) : ∃ t, t < 6 ∧ (W.run t).isSome = true := by
  unfold quietW at h
  rw [List.all_eq_false] at h
  obtain ⟨t, ht, hb⟩ := h
  exact ⟨t, List.mem_range.1 ht, by cases q : (W.run t).isSome; (rw [q] at hb; simp at hb); rfl⟩
theorem phiT_part (W : WS) (t : Nat) (ht : t < 6) : phiT W t ≤ phi W := by
  unfold phi
  rcases (show t = 0 ∨ t = 1 ∨ t = 2 ∨ t = 3 ∨ t = 4 ∨ t = 5 by omega) with rfl | rfl | rfl | rfl | rfl | rfl <;> omega
theorem run_quiet : ∀ n W, WI W → phi W ≤ n → quietW (runN n W) = true
  | 0, W, h, hp => by
    show quietW W = true
    cases hq : quietW W
    · obtain ⟨t, ht, hb⟩ := not_quiet hq
      have h1 := phiT_busy h t hb
      have h2 := phiT_part W t ht
      omega
    · rfl
  | n + 1, W, h, hp => by
    simp only [runN]
    cases hq : quietW W
    · rw [if_neg (by simp)]
      obtain ⟨t, ht, hb⟩ := not_quiet hq
      have h1 := steps_less W h t hb 6 ht
      exact run_quiet n _ (steps_keep 6 W h).1 (by omega)
    · rw [if_pos rfl]; exact hq
theorem Keep.round {I : WS → Prop} (h : Keep I) : ∀ n W, I W → I (stepsN n W)
  | 0, W, hI => hI
  | n + 1, W, hI => h.steps _ n (h.round n W hI)
theorem Keep.run {I : WS → Prop} (h : Keep I) : ∀ n W, I W → I (runN n W)
  | 0, W, hI => hI
  | n + 1, W, hI => by
    simp only [runN]
    split
    · exact hI
    · exact h.run n _ (h.round 6 W hI)
theorem open_spec (sb : Nat) (c : List Value) (T : TypeId) (fr : Nat × Nat) (p : Option Addr) (n cap : Nat) (ops : List SOp) (hn : n = ops.length) (h : Ops sb c p cap ops) :
    SpK Tryz.prog 13 #[.slice p n cap] (OpsIn sb c T fr ops) [] (fun v F' => ∃ p2 n2 cap2 steps, n2 = steps.length ∧ Ops sb c p2 cap2 steps ∧ steps.length ≤ ops.length ∧ OpenR (.slice p2 n2 cap2) v F') := by
  subst hn
  cases ops with
  | nil => exact spk_weak (open_nil p cap) (fun _ _ => trivial) (fun v F' r => ⟨p, 0, cap, [], rfl, h, Nat.le_refl _, r⟩)
  | cons o ops =>
    obtain ⟨so, rfl, h0⟩ := h.at_ (by simp)
    have hle := h.le
    simp only [List.length_cons] at hle
    have hin : ∀ w, OpsIn sb c T fr (o :: ops) w → w.heap[sb]? = some (.cells ⟨c⟩ T fr) := fun w hp => hp (by simp)
    by_cases hk : o.kd = 10
    · have tl : ∀ o', o' ∈ ops → o'.ok := fun o' m => h.ok o' (List.mem_cons_of_mem _ m)
      by_cases h1 : 1 < cap
      · refine spk_weak (open_yes so cap sb c T fr o ops hle h0 hk h1) hin (fun v F' r => ⟨_, _, cap - 1, ops, by simp, ⟨by omega, tl, fun h2 => ⟨so + 1 * 4, rfl, fun i q hq => ?_⟩⟩, by simp, r⟩)
        have := h0 (i + 1) q (by simpa using hq)
        rw [show so + 1 * 4 + i * 4 = so + (i + 1) * 4 by omega]
        exact this
      · have e : ops = [] := by cases ops with
          | nil => rfl
          | cons _ _ => simp only [List.length_cons] at hle; omega
        subst e
        exact spk_weak (open_yes1 so cap sb c T fr o [] hle h0 hk (by simp only [List.length_nil] at hle; omega)) hin (fun v F' r => ⟨_, _, 0, [], rfl, ⟨Nat.le_refl _, tl, fun h2 => absurd h2 (by simp)⟩, by simp, r⟩)
    · exact spk_weak (open_no so cap sb c T fr o ops hle h0 hk) hin (fun v F' r => ⟨_, _, cap, o :: ops, rfl, h, Nat.le_refl _, r⟩)


structure PlI (I : WS → Prop) (b kb : Nat) (m : MS) (steps : List SOp) (s : SS Unit) : Prop where
  n : s.n ≤ steps.length
  eq : s.W = playsN (W0 m) (steps.take s.n)
  good : I s.W
  wd : Wd b kb s.W [] s.F
  lw : LW s.W ≤ 2 * s.n
theorem PlI.next {I : WS → Prop} (hK : Keep I) {b kb : Nat} {m : MS} {steps : List SOp} {s : SS Unit} (h : PlI I b kb m steps s) {o : SOp} (ho : steps[s.n]? = some o) (hok : o.ok) {F2 : List (Nat × Obj)} (hW : Wd b kb (playN s.W o) [] F2) : PlI I b kb m steps ⟨s.n + 1, playN s.W o, (), F2⟩ := by
  have hp := hK.play s.W o hok h.good
  have hlt : s.n < steps.length := by
    rcases Nat.lt_or_ge s.n steps.length with q | q
    · exact q
    · rw [List.getElem?_eq_none q] at ho; cases ho
  refine ⟨hlt, ?_, hp.1, hW, ?_⟩
  · show playN s.W o = playsN (W0 m) (steps.take (s.n + 1))
    rw [plays_take ho, h.eq]
  · show LW (playN s.W o) ≤ 2 * (s.n + 1)
    have h1 := hp.2
    have h2 := h.lw
    omega
theorem LW_W0 (m : MS) : LW (W0 m) = 0 := rfl

set_option maxHeartbeats 1000000 in
theorem played_spec {I : WS → Prop} (hK : Keep I) (hI0 : ∀ m, StartM m → I (W0 m)) (sb : Nat) (c : List Value) (T : TypeId) (fr : Nat × Nat) (p : Option Addr) (n cap : Nat) (ops : List SOp) (hn : n = ops.length) (hlen : n ≤ 9223372036854775807) (h : Ops sb c p cap ops) (hsm : n ≤ 65536) : SpK Tryz.prog 7 #[.slice p n cap] (OpsIn sb c T fr ops) [] (fun v F' => ∃ wb b kb m steps F2, StartM m ∧ (∀ o, o ∈ steps → o.ok) ∧ steps.length ≤ 65536 ∧ v = .pointer (some ⟨wb, 0, none⟩) ∧ I (playsN (W0 m) steps) ∧ LW (playsN (W0 m) steps) ≤ 2 * 65536 ∧ Wd b kb (playsN (W0 m) steps) [] F2 ∧ F' = (wb, C [.pointer (some ⟨b, 0, none⟩), .pointer (some ⟨kb, 0, none⟩), .int .u64 ((65536 + hd false : Nat) : Int), .int .u64 ((65536 + nd false 0 : Nat) : Int), .int .u64 ((65536 + nd false 1 : Nat) : Int), .int .u64 ((65536 + nd false 2 : Nat) : Int), .int .u64 ((65536 + nd false 3 : Nat) : Int), .int .u64 ((65536 + nd false 4 : Nat) : Int), .int .u64 ((65536 + nd false 5 : Nat) : Int), .int .u64 ((65536 + nd false 6 : Nat) : Int), .int .i64 (wd false : Int), .int .u64 ((65536 + hd true : Nat) : Int), .int .u64 ((65536 + nd true 0 : Nat) : Int), .int .u64 ((65536 + nd true 1 : Nat) : Int), .int .u64 ((65536 + nd true 2 : Nat) : Int), .int .u64 ((65536 + nd true 3 : Nat) : Int), .int .u64 ((65536 + nd true 4 : Nat) : Int), .int .u64 ((65536 + nd true 5 : Nat) : Int), .int .u64 ((65536 + nd true 6 : Nat) : Int), .int .i64 (wd true : Int)] 74) :: F2) := by
  refine f_enter (args := [.slice p n cap]) Tryz.func7 rfl Tryz.ntmps7 rfl ?_
  intro w0 w a hpre hl hh
  simp only [slotsFrom, Nat.reduceAdd] at hl
  refine c_seq ?_
  refine c_region ?_
  refine wl (wl_val hl rfl trivial (r_assign hl rfl) ?_)
  clear hl a; intro a hl
  refine w_nil ?_
  have hl2 := hl.add (t := 0) (hl.nil) rfl; clear hl; have hl := hl2; clear hl2
  refine then_normal ?_
  refine c_seq ?_
  refine c_region ?_
  refine wl (wl_val hl rfl trivial (r_move hl rfl) ?_)
  clear hl a; intro a hl
  refine wl (w_call hl hh rfl trivial rfl cal13 rfl (open_spec sb c T fr p n cap ops hn h) (by repeat (first | exact keeps_nil | apply keeps_cons (by repeat (first | exact find_head | apply find_tail)) (by first  | rfl) | exact keeps_self | exact keeps_left | exact keeps_right | exact keeps_swap | apply keeps_mv)) (OpsIn.keep (fun b hb => hh.frm.block b hb (by simp)) hpre) ?_)
  clear hl hh a w; intro vc Fc a w hR hl hh
  obtain ⟨p2, n2, cap2, steps, hn2, hO, hst, wb, b, kb, m, hM, rfl, rfl⟩ := hR
  try simp only [List.cons_append, List.nil_append] at hh
  subst hn2
  refine wl (wl_val hl rfl trivial (r_move hl rfl) ?_)
  clear hl a; intro a hl
  refine wl (wl_val hl rfl trivial (r_extract hl rfl (by simp only [List.getElem?_toArray, List.getElem?_cons_zero, List.getElem?_cons_succ]; rfl)) ?_)
  clear hl a; intro a hl
  refine wl (wl_val hl rfl trivial (r_extract hl rfl (by simp only [List.getElem?_toArray, List.getElem?_cons_zero, List.getElem?_cons_succ]; rfl)) ?_)
  clear hl a; intro a hl
  refine wl (wl_val hl rfl trivial (r_assign hl rfl) ?_)
  clear hl a; intro a hl
  refine wl (wl_val hl rfl trivial (r_assign hl rfl) ?_)
  clear hl a; intro a hl
  refine w_nil ?_
  have hl2 := hl.add (t := 3) (hl.add (t := 4) (hl.nil) rfl) rfl; clear hl; have hl := hl2; clear hl2
  refine then_normal ?_
  refine c_seq ?_
  refine c_seq ?_
  refine c_region ?_
  refine wl (wl_val hl rfl trivial (r_move hl rfl) ?_)
  clear hl a; intro a hl
  refine wl (wl_val hl rfl trivial (r_lenS hl rfl slc22) ?_)
  clear hl a; intro a hl
  refine wl (wl_val hl rfl trivial (r_move hl rfl) ?_)
  clear hl a; intro a hl
  refine w_nil ?_
  have hl2 := hl.add (t := 3) (hl.add (t := 12) (hl.add (t := 13) (hl.add (t := 14) (hl.nil) rfl) rfl) rfl) rfl; clear hl; have hl := hl2; clear hl2
  refine then_normal ?_
  refine wp_block ?_
  obtain ⟨KS0, hKS0, hk⟩ := (hl.add (t := 3) (hl.add (t := 12) (hl.add (t := 13) (hl.nil) rfl) rfl) rfl).name
  obtain ⟨HS0, hHS0, hh2⟩ := hh.nameT (A := [(wb, C [.pointer (some ⟨b, 0, none⟩), .pointer (some ⟨kb, 0, none⟩), .int .u64 ((65536 + hd false : Nat) : Int), .int .u64 ((65536 + nd false 0 : Nat) : Int), .int .u64 ((65536 + nd false 1 : Nat) : Int), .int .u64 ((65536 + nd false 2 : Nat) : Int), .int .u64 ((65536 + nd false 3 : Nat) : Int), .int .u64 ((65536 + nd false 4 : Nat) : Int), .int .u64 ((65536 + nd false 5 : Nat) : Int), .int .u64 ((65536 + nd false 6 : Nat) : Int), .int .i64 (wd false : Int), .int .u64 ((65536 + hd true : Nat) : Int), .int .u64 ((65536 + nd true 0 : Nat) : Int), .int .u64 ((65536 + nd true 1 : Nat) : Int), .int .u64 ((65536 + nd true 2 : Nat) : Int), .int .u64 ((65536 + nd true 3 : Nat) : Int), .int .u64 ((65536 + nd true 4 : Nat) : Int), .int .u64 ((65536 + nd true 5 : Nat) : Int), .int .u64 ((65536 + nd true 6 : Nat) : Int), .int .i64 (wd true : Int)] 74)]) (U := [(kb, C (arrL 27 (encK ⟨.pointer (some ⟨b, 0, none⟩), fun _ => .nilIface, fun _ => 0, fun _ => 0, fun _ => 0, .slice none 0 0, 0⟩)) 64), (b, C (arrL 16391 (encM m)) 116)]) (keeps_cons (b := wb) (by repeat (first | exact find_head | apply find_tail)) (by first | rfl) ((by repeat (first | exact keeps_nil | exact keeps_self | exact keeps_swap | apply keeps_mv))))
  refine c_loop (α := SS Unit) (fun s => steps.length - s.n) (fun s a w => (PlI I b kb m steps s) ∧ Sl 23 ([(14, .int .i64 s.n)] ++ KS0) a ∧ Has _ w0 ([(wb, C [.pointer (some ⟨b, 0, none⟩), .pointer (some ⟨kb, 0, none⟩), .int .u64 ((65536 + hd false : Nat) : Int), .int .u64 ((65536 + nd false 0 : Nat) : Int), .int .u64 ((65536 + nd false 1 : Nat) : Int), .int .u64 ((65536 + nd false 2 : Nat) : Int), .int .u64 ((65536 + nd false 3 : Nat) : Int), .int .u64 ((65536 + nd false 4 : Nat) : Int), .int .u64 ((65536 + nd false 5 : Nat) : Int), .int .u64 ((65536 + nd false 6 : Nat) : Int), .int .i64 (wd false : Int), .int .u64 ((65536 + hd true : Nat) : Int), .int .u64 ((65536 + nd true 0 : Nat) : Int), .int .u64 ((65536 + nd true 1 : Nat) : Int), .int .u64 ((65536 + nd true 2 : Nat) : Int), .int .u64 ((65536 + nd true 3 : Nat) : Int), .int .u64 ((65536 + nd true 4 : Nat) : Int), .int .u64 ((65536 + nd true 5 : Nat) : Int), .int .u64 ((65536 + nd true 6 : Nat) : Int), .int .i64 (wd true : Int)] 74)] ++ (HS0 ++ s.F)) w) ⟨0, W0 m, (), [(kb, C (arrL 27 (encK ⟨.pointer (some ⟨b, 0, none⟩), fun _ => .nilIface, fun _ => 0, fun _ => 0, fun _ => 0, .slice none 0 0, 0⟩)) 64), (b, C (arrL 16391 (encM m)) 116)]⟩ ⟨⟨Nat.zero_le _, rfl, hI0 m hM, Wd_start b kb m [], Nat.le_refl _⟩, hl.addE (t := 14) (hk) rfl (by first | rfl), hh2⟩ ?_
  clear hk hh2 hl hh a w
  intro s a w hI
  obtain ⟨hS, hl, hh⟩ := hI
  subst hKS0; subst hHS0
  simp only [List.cons_append, List.nil_append, List.append_nil] at hl hh
  refine c_seq ?_
  refine c_region ?_
  refine wl (wl_val hl rfl trivial (r_lss hl rfl rfl) ?_)
  clear hl a; intro a hl
  refine w_nil ?_
  have hl2 := hl.add (t := 3) (hl.add (t := 12) (hl.add (t := 13) (hl.add (t := 14) (hl.add (t := 15) (hl.nil) rfl) rfl) rfl) rfl) rfl; clear hl; have hl := hl2; clear hl2
  refine then_normal ?_
  refine c_seq ?_
  refine c_cond hl rfl ?_ ?_
  · intro hc0
    try simp only [decide_eq_true_eq, decide_eq_false_iff_not, Bool.not_eq_true', Bool.not_eq_false', Bool.not_eq_true, Bool.not_eq_false, Bool.and_eq_true, Bool.or_eq_true, Bool.and_eq_false_iff, Bool.or_eq_false_iff, Bool.not_not, ne_eq, Int.not_lt, Int.not_le, Decidable.not_not, beq_iff_eq, bne_iff_ne] at hc0
    have hi : s.n < steps.length := by omega
    obtain ⟨so, rfl, hat⟩ := hO.at_ (by omega)
    obtain ⟨q, hq⟩ : ∃ q, steps[s.n]? = some q := ⟨_, List.getElem?_eq_getElem hi⟩
    have hqv := hat s.n q hq
    have hqo := hO.ok q (List.mem_of_getElem? hq)
    have hm := hpre (by omega)
    have hqo2 := hqo
    obtain ⟨b1, b2, b3, b4⟩ := hqo2
    obtain ⟨kd, th, u, v⟩ := q
    simp only [SOp.vals] at hqv b1 b2 b3 b4
    refine wp_skip ?_
    refine then_normal ?_
    refine c_seq ?_
    refine wp_block ?_
    refine c_seq ?_
    refine c_region ?_
    refine wl (wl_val hl rfl trivial (r_indexS hl rfl rfl slc22 (by omega) (by omega) (by first | (simp only [Int.reduceToNat]; rfl) | exact toNat_add1 _ | exact toNat_add2 _ _ | exact toNat_emod _ _ | exact Int.toNat_natCast _ | rfl)) ?_)
    clear hl a; intro a hl
    first | refine wl (w_loadA hl hh rfl trivial agg43 rfl (by repeat (first | exact find_head | apply find_tail)) (by first | (simp only [List.getElem?_cons_zero, List.getElem?_cons_succ, Value.cells, List.take_zero, List.take_succ_cons, List.take_nil, List.drop_zero, List.drop_succ_cons, List.drop_nil, List.length_cons, List.length_nil, List.cons_append, List.nil_append, List.append_nil, Nat.zero_add, Nat.add_zero, Nat.reduceAdd, Nat.reduceBEq, Nat.reduceEqDiff, Nat.ble, BEq.rfl, Bool.and_true, Bool.and_self, cond_true, beq_self_eq_true]; rfl)) (by first | rfl | (simp; done)) ?_) | refine wl (w_loadRA hl hh rfl trivial agg43 rfl hm (by simp) hqv rfl ?_)
    clear hl a; intro a hl
    refine wl (w_alloc hl hh rfl trivial zero43 rfl ?_)
    clear hl hh a w; intro k6 a w hl hh
    refine wl (w_storeA hl hh trivial agg43 rfl rfl (by repeat (first | exact find_head | apply find_tail)) (by first | rfl | (simp; done)) (by first | (simp; done) | (simp; omega)) (by first | rfl | (simp; done)) (by first | (simp only [setL, List.getElem?_cons_zero, List.getElem?_cons_succ, Value.cells, List.take_zero, List.take_succ_cons, List.take_nil, List.drop_zero, List.drop_succ_cons, List.drop_nil, List.length_cons, List.length_nil, List.cons_append, List.nil_append, List.append_nil, Nat.zero_add, Nat.add_zero, Nat.reduceAdd, Nat.reduceBEq, Nat.reduceEqDiff, Nat.ble, BEq.rfl, Bool.and_true, Bool.and_self, cond_true, beq_self_eq_true]; rfl)) ?_)
    clear hh w; intro w hh
    refine w_nil ?_
    have hl2 := hl.add (t := 3) (hl.add (t := 6) (hl.add (t := 12) (hl.add (t := 13) (hl.add (t := 14) (hl.nil) rfl) rfl) rfl) rfl) rfl; clear hl; have hl := hl2; clear hl2
    refine then_normal ?_
    refine c_region ?_
    refine wl (wl_val hl rfl trivial (r_move hl rfl) ?_)
    clear hl a; intro a hl
    first | refine wl (w_loadA hl hh rfl trivial agg43 rfl (by repeat (first | exact find_head | apply find_tail)) (by first | (simp only [List.getElem?_cons_zero, List.getElem?_cons_succ, Value.cells, List.take_zero, List.take_succ_cons, List.take_nil, List.drop_zero, List.drop_succ_cons, List.drop_nil, List.length_cons, List.length_nil, List.cons_append, List.nil_append, List.append_nil, Nat.zero_add, Nat.add_zero, Nat.reduceAdd, Nat.reduceBEq, Nat.reduceEqDiff, Nat.ble, BEq.rfl, Bool.and_true, Bool.and_self, cond_true, beq_self_eq_true]; rfl)) (by first | rfl | (simp; done)) ?_) | refine wl (w_loadRA hl hh rfl trivial agg43 rfl hm (by simp) hqv rfl ?_)
    clear hl a; intro a hl
    refine wl (w_call hl hh rfl trivial rfl cal14 rfl (play_spec wb b kb (noEye wb b kb hK) s.W (nox wb b kb hK) s.F kd u v ⟨by omega, by omega⟩ ⟨by omega, by omega⟩ th (by omega) ⟨by omega, by omega⟩ hS.wd hS.good (by have := hS.lw; omega)) (by repeat (first | exact keeps_nil | apply keeps_cons (by repeat (first | exact find_head | apply find_tail)) (by first  | rfl) | exact keeps_self | exact keeps_left | exact keeps_right | exact keeps_swap | apply keeps_mv)) trivial ?_)
    clear hl hh a w; intro vc Fc a w hR hl hh
    obtain ⟨rfl, F2, hW2, rfl⟩ := hR
    try simp only [List.cons_append, List.nil_append] at hh
    rw [noEye_play wb b kb hK s.W (nox wb b kb hK) ⟨kd, th, u, v⟩] at hW2
    try simp only [List.cons_append, List.nil_append, List.append_nil] at hh
    refine w_nil ?_
    have hl2 := hl.add (t := 3) (hl.add (t := 12) (hl.add (t := 13) (hl.add (t := 14) (hl.nil) rfl) rfl) rfl) rfl; clear hl; have hl := hl2; clear hl2
    refine blk_normal ?_
    refine then_normal ?_
    refine c_region ?_
    first | refine wl (wl_val hl rfl trivial (r_add hl rfl rfl (by simp only [Fits]; omega)) ?_) | refine wl (wl_val hl rfl trivial (r_addW hl rfl rfl) ?_)
    clear hl a; intro a hl
    refine wl (wl_val hl rfl trivial (r_move hl rfl) ?_)
    clear hl a; intro a hl
    refine w_nil ?_
    have hl2 := hl.add (t := 3) (hl.add (t := 12) (hl.add (t := 13) (hl.add (t := 14) (hl.nil) rfl) rfl) rfl) rfl; clear hl; have hl := hl2; clear hl2
    refine then_normal ?_
    refine ⟨⟨s.n + 1, playN s.W ⟨kd, th, u, v⟩, (), F2⟩, (by show steps.length - (s.n + 1) < steps.length - s.n; omega), (hS.next hK hq hqo hW2), hl.addE (t := 14) (hl.addE (t := 3) (hl.addE (t := 12) (hl.addE (t := 13) (hl.nil) rfl (by first | rfl | rfl)) rfl (by first | rfl | rfl)) rfl (by first | rfl | rfl)) rfl (by first | rfl | rfl), hh.keep (by repeat (first | exact keeps_nil | apply keeps_cons (by repeat (first | exact find_head | apply find_tail)) (by first  | rfl) | exact keeps_self | exact keeps_left | exact keeps_right | exact keeps_swap | apply keeps_mv))⟩
  · intro hc0
    try simp only [decide_eq_true_eq, decide_eq_false_iff_not, Bool.not_eq_true', Bool.not_eq_false', Bool.not_eq_true, Bool.not_eq_false, Bool.and_eq_true, Bool.or_eq_true, Bool.and_eq_false_iff, Bool.or_eq_false_iff, Bool.not_not, ne_eq, Int.not_lt, Int.not_le, Decidable.not_not, beq_iff_eq, bne_iff_ne] at hc0
    have hsn : s.n = steps.length := by have := hS.n; omega
    have heq := hS.eq
    rw [hsn, List.take_length] at heq
    refine wp_exit ?_
    refine then_exit ?_
    refine then_exit ?_
    refine blk_exit ?_
    refine then_normal ?_
    refine c_seq ?_
    refine c_region ?_
    refine wl (wl_val hl rfl trivial (r_move hl rfl) ?_)
    clear hl a; intro a hl
    refine wl (wl_val hl rfl trivial (r_assign hl rfl) ?_)
    clear hl a; intro a hl
    refine w_nil ?_
    have hl2 := hl.add (t := 2) (hl.nil) rfl; clear hl; have hl := hl2; clear hl2
    refine then_normal ?_
    refine wp_ret ?_
    refine f_ret1 (F' := (wb, C [.pointer (some ⟨b, 0, none⟩), .pointer (some ⟨kb, 0, none⟩), .int .u64 ((65536 + hd false : Nat) : Int), .int .u64 ((65536 + nd false 0 : Nat) : Int), .int .u64 ((65536 + nd false 1 : Nat) : Int), .int .u64 ((65536 + nd false 2 : Nat) : Int), .int .u64 ((65536 + nd false 3 : Nat) : Int), .int .u64 ((65536 + nd false 4 : Nat) : Int), .int .u64 ((65536 + nd false 5 : Nat) : Int), .int .u64 ((65536 + nd false 6 : Nat) : Int), .int .i64 (wd false : Int), .int .u64 ((65536 + hd true : Nat) : Int), .int .u64 ((65536 + nd true 0 : Nat) : Int), .int .u64 ((65536 + nd true 1 : Nat) : Int), .int .u64 ((65536 + nd true 2 : Nat) : Int), .int .u64 ((65536 + nd true 3 : Nat) : Int), .int .u64 ((65536 + nd true 4 : Nat) : Int), .int .u64 ((65536 + nd true 5 : Nat) : Int), .int .u64 ((65536 + nd true 6 : Nat) : Int), .int .i64 (wd true : Int)] 74) :: s.F) hl hh rfl rfl (by repeat (first | exact keeps_nil | apply keeps_cons (by repeat (first | exact find_head | apply find_tail)) (by first  | rfl) | exact keeps_self | exact keeps_left | exact keeps_right | exact keeps_swap | apply keeps_mv)) ?_
    exact ⟨wb, b, kb, m, steps, s.F, hM, hO.ok, by omega, rfl, heq ▸ hS.good, heq ▸ (by have := hS.lw; have := hS.n; omega), heq ▸ hS.wd, rfl⟩

end Go.Proofs.Qxb6500914aGreat

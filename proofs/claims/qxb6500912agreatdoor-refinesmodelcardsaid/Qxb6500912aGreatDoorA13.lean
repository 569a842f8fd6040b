import Derived.Test.Qxb6500912aGreatDoorA12
namespace Go.Proofs.Qxb6500912aGreatDoor
open Go.Eng
set_option linter.unusedVariables false
set_option linter.unusedSimpArgs false

set_option maxHeartbeats 1000000 in
theorem una_spec (cp : Nat) (s : CS) (sp : Option Addr) : SpK Tryz.prog 18 #[.pointer (some ⟨cp, 0, none⟩)] (fun w => w.heap[cp]? = some (C (encC s sp) 66)) [] (fun v F' => v = .int .u32 s.una ∧ F' = []) := by
  refine f_enter (args := [.pointer (some ⟨cp, 0, none⟩)]) Tryz.func18 rfl Tryz.ntmps18 rfl ?_
  intro w0 w a hpre hl hh
  simp only [slotsFrom, Nat.reduceAdd] at hl
  refine c_seq ?_
  refine c_region ?_
  refine wl (wl_val hl rfl trivial (r_assign hl rfl) ?_)
  clear hl a; intro a hl
  refine w_nil ?_
  have hl2 := hl.add (t := 0) (hl.nil) rfl; clear hl; have hl := hl2; clear hl2
  refine then_normal ?_
  refine c_seq ?_
  refine c_region ?_
  refine wl (wl_val hl rfl trivial (r_move hl rfl) ?_)
  clear hl a; intro a hl
  refine wl (wl_val hl rfl trivial (r_nilCheck hl rfl) ?_)
  clear hl a; intro a hl
  refine wl (wl_val hl rfl trivial (r_field hl rfl fld66_6) ?_)
  clear hl a; intro a hl
  first | refine wl (w_load hl hh rfl trivial one29 rfl (by repeat (first | exact find_head | apply find_tail)) (by first | rfl) ?_) | refine wl (w_loadR hl hh rfl trivial one29 rfl hpre (by simp) rfl ?_)
  clear hl a; intro a hl
  refine wl (wl_val hl rfl trivial (r_assign hl rfl) ?_)
  clear hl a; intro a hl
  refine w_nil ?_
  have hl2 := hl.add (t := 2) (hl.nil) rfl; clear hl; have hl := hl2; clear hl2
  refine then_normal ?_
  refine wp_ret ?_
  refine f_ret1 (F' := []) hl hh rfl rfl (by repeat (first | exact keeps_nil | apply keeps_cons (by repeat (first | exact find_head | apply find_tail)) (by first  | rfl) | exact keeps_self | apply keeps_mv)) ?_
  exact ⟨rfl, rfl⟩

set_option maxHeartbeats 1000000 in
theorem nxt_spec (cp : Nat) (s : CS) (sp : Option Addr) : SpK Tryz.prog 28 #[.pointer (some ⟨cp, 0, none⟩)] (fun w => w.heap[cp]? = some (C (encC s sp) 66)) [] (fun v F' => v = .int .u32 s.nxt ∧ F' = []) := by
  refine f_enter (args := [.pointer (some ⟨cp, 0, none⟩)]) Tryz.func28 rfl Tryz.ntmps28 rfl ?_
  intro w0 w a hpre hl hh
  simp only [slotsFrom, Nat.reduceAdd] at hl
  refine c_seq ?_
  refine c_region ?_
  refine wl (wl_val hl rfl trivial (r_assign hl rfl) ?_)
  clear hl a; intro a hl
  refine w_nil ?_
  have hl2 := hl.add (t := 0) (hl.nil) rfl; clear hl; have hl := hl2; clear hl2
  refine then_normal ?_
  refine c_seq ?_
  refine c_region ?_
  refine wl (wl_val hl rfl trivial (r_move hl rfl) ?_)
  clear hl a; intro a hl
  refine wl (wl_val hl rfl trivial (r_nilCheck hl rfl) ?_)
  clear hl a; intro a hl
  refine wl (wl_val hl rfl trivial (r_field hl rfl fld66_7) ?_)
  clear hl a; intro a hl
  first | refine wl (w_load hl hh rfl trivial one29 rfl (by repeat (first | exact find_head | apply find_tail)) (by first | rfl) ?_) | refine wl (w_loadR hl hh rfl trivial one29 rfl hpre (by simp) rfl ?_)
  clear hl a; intro a hl
  refine wl (wl_val hl rfl trivial (r_assign hl rfl) ?_)
  clear hl a; intro a hl
  refine w_nil ?_
  have hl2 := hl.add (t := 2) (hl.nil) rfl; clear hl; have hl := hl2; clear hl2
  refine then_normal ?_
  refine wp_ret ?_
  refine f_ret1 (F' := []) hl hh rfl rfl (by repeat (first | exact keeps_nil | apply keeps_cons (by repeat (first | exact find_head | apply find_tail)) (by first  | rfl) | exact keeps_self | apply keeps_mv)) ?_
  exact ⟨rfl, rfl⟩

theorem spk_frame {P : Program} {f : FuncId} {args : Array Value} {Pre : World → Prop} {F : List (Nat × Obj)} {R : Value → List (Nat × Obj) → Prop} (h : SpK P f args Pre F R) (G : List (Nat × Obj)) : SpK P f args Pre (F ++ G) (fun v F' => ∃ F1, R v F1 ∧ F' = F1 ++ G) := fun w h1 h2 h3 => by
  have hh := Has.start h2 h3
  refine (h w h1 hh.left.1 hh.left.2).mono fun e w' he => ?_
  cases e with
  | returned v => obtain ⟨F', h4, h5⟩ := he; exact ⟨F' ++ G, ⟨F', h4, rfl⟩, hh.call (fun b m => m) h5⟩
  | panicked c => exact he
  | outgrown => exact he
def CM (Z : List (Nat × Obj)) (cp : Nat) (t : St) : Prop :=
  (t.cfg.sack = false ∧ t.os = [] ∧ Z = [(cp, C (encC t.s none) 66)]) ∨
  (t.cfg.sack = true ∧ ∃ sb p c E, Row (.slice p t.os.length c) t.os.length (fl (bkc t.s.una) t.os) 2 73 E ∧ Z = (cp, C (encC t.s (some ⟨sb, 0, none⟩)) 66) :: (sb, C (bdL t.s.una t.s.nxt (.slice p t.os.length c)) 85) :: E)
theorem cm_ctl {Z : List (Nat × Obj)} {cp : Nat} {t : St} (h : CM Z cp t) (hi : SI t) {Z2 : List (Nat × Obj)} (hz : ∀ x, x ∈ Z → x ∈ Z2) : ∃ sp, CtlR Z2 cp t.s sp t.bl ∧ sp.isNone = t.ns := by
  have hl := hi.l16
  rcases h with ⟨h1, h2, rfl⟩ | ⟨h1, sb, p, c, E, hR, rfl⟩
  · refine ⟨none, ⟨by unfold St.bl; rw [List.length_map]; omega, hz _ (by simp), .inl ⟨rfl, by unfold St.bl; rw [h2]; rfl⟩⟩, by unfold St.ns; rw [h1]; rfl⟩
  · refine ⟨some ⟨sb, 0, none⟩, ⟨by unfold St.bl; rw [List.length_map]; omega, hz _ (by simp), .inr ⟨sb, t.s.una, t.s.nxt, p, c, E, rfl, ?_, ?_, fun x hx => hz _ (by simp [hx])⟩⟩, by unfold St.ns; rw [h1]; rfl⟩
    · unfold St.bl; rw [List.length_map]; exact hz _ (by simp)
    · unfold St.bl; rw [List.length_map, fl_ab]; exact hR
section cm
variable {Z : List (Nat × Obj)} {cp : Nat} {t : St}
theorem view_cm (h : CM Z cp t) (hi : SI t) : SpK Tryz.prog 26 #[.pointer (some ⟨cp, 0, none⟩)] (Mem Z) [] (fun v F' => v = .agg ⟨vwc (viewP t.s t.ns t.bl)⟩ ∧ F' = []) := by
  obtain ⟨sp, h1, h2⟩ := cm_ctl h hi (fun _ m => m)
  have := view_spec cp t.s hi.ok sp t.bl h1
  rw [h2] at this; exact this
theorem next_cm (h : CM Z cp t) (hi : SI t) (fresh : Int) (hf : U fresh) : SpK Tryz.prog 12 #[.pointer (some ⟨cp, 0, none⟩), .int .u32 fresh] (Mem Z) [] (fun v F' => v = .agg ⟨grc (nextP t.s t.ns t.bl fresh)⟩ ∧ F' = []) := by
  obtain ⟨sp, h1, h2⟩ := cm_ctl h hi (fun _ m => m)
  have := next_spec cp t.s hi.ok sp t.bl h1 hi.fl fresh hf
  rw [h2] at this; exact this
theorem sacked_cm (h : CM Z cp t) (hi : SI t) : SpK Tryz.prog 68 #[.pointer (some ⟨cp, 0, none⟩)] (Mem Z) [] (fun v F' => Row v t.bl.length (fl pc t.bl) 2 73 F') := by
  obtain ⟨sp, h1, h2⟩ := cm_ctl h hi (fun _ m => m)
  exact sacked_ro h1
theorem get_cm {f : FuncId} {R : CS → Value → List (Nat × Obj) → Prop} (h : CM Z cp t) (hg : ∀ sp, SpK Tryz.prog f #[.pointer (some ⟨cp, 0, none⟩)] (fun w => w.heap[cp]? = some (C (encC t.s sp) 66)) [] (R t.s)) : SpK Tryz.prog f #[.pointer (some ⟨cp, 0, none⟩)] (Mem Z) [] (R t.s) := by
  rcases h with ⟨h1, h2, rfl⟩ | ⟨h1, sb, p, c, E, hR, rfl⟩
  · exact spk_weak (hg none) (fun w h => h _ _ (by simp)) (fun _ _ h => h)
  · exact spk_weak (hg (some ⟨sb, 0, none⟩)) (fun w h => h _ _ (by simp)) (fun _ _ h => h)
theorem una_cm (h : CM Z cp t) : SpK Tryz.prog 18 #[.pointer (some ⟨cp, 0, none⟩)] (Mem Z) [] (fun v F' => v = .int .u32 t.s.una ∧ F' = []) := get_cm (R := fun s v F' => v = .int .u32 s.una ∧ F' = []) h (fun sp => una_spec cp t.s sp)
theorem nxt_cm (h : CM Z cp t) : SpK Tryz.prog 28 #[.pointer (some ⟨cp, 0, none⟩)] (Mem Z) [] (fun v F' => v = .int .u32 t.s.nxt ∧ F' = []) := get_cm (R := fun s v F' => v = .int .u32 s.nxt ∧ F' = []) h (fun sp => nxt_spec cp t.s sp)
theorem turn_cm {f : FuncId} {args : Array Value} {s' : CS} (h : CM Z cp t) (hu : s'.una = t.s.una) (hn : s'.nxt = t.s.nxt) (hg : ∀ sp, Sp Tryz.prog f args [(cp, C (encC t.s sp) 66)] (fun v F' => v = .tuple #[] ∧ F' = [(cp, C (encC s' sp) 66)])) : Sp Tryz.prog f args Z (fun v F' => v = .tuple #[] ∧ CM F' cp { t with s := s' }) := by
  rcases h with ⟨h1, h2, rfl⟩ | ⟨h1, sb, p, c, E, hR, rfl⟩
  · exact spk_weak (hg none) (fun w h => h) (fun v F' ⟨a, b⟩ => ⟨a, .inl ⟨h1, h2, b⟩⟩)
  · refine spk_weak (spk_frame (hg (some ⟨sb, 0, none⟩)) ((sb, C (bdL t.s.una t.s.nxt (.slice p t.os.length c)) 85) :: E)) (fun w h => h) (fun v F' ⟨F1, ⟨a, b⟩, e⟩ => ⟨a, .inr ⟨h1, sb, p, c, E, ?_, ?_⟩⟩)
    · simp only [hu]; exact hR
    · rw [e, b]; simp only [hu, hn]; rfl
theorem rtoP_un (s : CS) : (rtoP s).una = s.una ∧ (rtoP s).nxt = s.nxt := by
  unfold rtoP; split
  · exact ⟨rfl, rfl⟩
  split <;> exact ⟨rfl, rfl⟩
theorem idleP_un (s : CS) : (idleP s).una = s.una ∧ (idleP s).nxt = s.nxt := by
  unfold idleP; split <;> exact ⟨rfl, rfl⟩
theorem rto_cm (h : CM Z cp t) (hi : SI t) : Sp Tryz.prog 22 #[.pointer (some ⟨cp, 0, none⟩)] Z (fun v F' => v = .tuple #[] ∧ CM F' cp { t with s := rtoP t.s }) :=
  turn_cm h (rtoP_un _).1 (rtoP_un _).2 (fun sp => rto_spec cp t.s sp hi.ok)
theorem idle_cm (h : CM Z cp t) (hi : SI t) : Sp Tryz.prog 24 #[.pointer (some ⟨cp, 0, none⟩)] Z (fun v F' => v = .tuple #[] ∧ CM F' cp { t with s := idleP t.s }) :=
  turn_cm h (idleP_un _).1 (idleP_un _).2 (fun sp => idle_spec cp t.s sp hi.ok)
theorem sent_cm (h : CM Z cp t) (hi : SI t) (k q n : Int) (hq : U q) (hn : U n) : Sp Tryz.prog 16 #[.pointer (some ⟨cp, 0, none⟩), .agg ⟨[.int .u8 k, .int .u32 q, .int .u32 n]⟩] Z (fun v F' => v = .tuple #[] ∧ CM F' cp { t with s := sentP t.s k q n }) := by
  have hu := sentP_un t.s k q n
  rcases h with ⟨h1, h2, rfl⟩ | ⟨h1, sb, p, c, E, hR, rfl⟩
  · exact spk_weak (onSentN_spec cp t.s hi.ok hi.fl k q n hq hn) (fun w h => h) (fun v F' ⟨a, b⟩ => ⟨a, .inl ⟨h1, h2, b⟩⟩)
  · refine spk_weak (spk_frame (onSentS_spec cp t.s hi.ok hi.fl sb t.s.una (.slice p t.os.length c) k q n hq hn) E) (fun w h => h) (fun v F' ⟨F1, ⟨a, b⟩, e⟩ => ⟨a, .inr ⟨h1, sb, p, c, E, ?_, ?_⟩⟩)
    · simp only [hu]; exact hR
    · rw [e, b]; simp only [hu]; rfl
def AckT (t : St) (ack : Int) (dup : Bool) (bks : List (Int × Int)) (t' : St) : Prop :=
  (t.cfg.sack = false ∧ t' = { t with s := ackP t.s true ack dup [] }) ∨
  (t.cfg.sack = true ∧ ∃ os' n, AckR t.s t.os ack bks os' n ∧ t' = { t with s := ackP t.s false ack (decide (0 < n)) (os'.map (Bk.ab ack)), os := os' })
theorem ackT_si {ack : Int} {dup : Bool} {bks : List (Int × Int)} {t' : St} (h : AckT t ack dup bks t') (hk : U ack) (hi : SI t) : SI t' := by
  rcases h with ⟨h1, rfl⟩ | ⟨h1, os', n, hA, rfl⟩
  · have h0 := hi.nb h1
    have := si_ack (dup := dup) (bl := []) (os' := t.os) hi hk (fun _ => by rw [h0]; trivial) hi.l16 hi.nb (fun _ => rfl)
    rw [show t.ns = true by unfold St.ns; rw [h1]; rfl] at this
    exact this
  · have hfu := flightP_U t.s
    have hun := hi.ok.una; have hnx := hi.ok.nxt
    have hbl : (ack - t.s.una) % 4294967296 ≤ flightP t.s → BInv ((flightP t.s).toNat - ((ack - t.s.una) % 4294967296).toNat) os' ∧ os'.length ≤ 16 := fun hle => by
      rcases hA with ⟨hb, _⟩ | ⟨hb, hA⟩
      · omega
      · refine hA.inv (f := (flightP t.s).toNat - ((ack - t.s.una) % 4294967296).toNat) ?_ (advO_inv (by omega) hi.bi) (Nat.le_trans (advO_len _ _) hi.l16)
        unfold flightP at hle ⊢; omega
    have hlen : os'.length ≤ 16 := by
      rcases hA with ⟨hb, rfl, _⟩ | ⟨hb, _⟩
      · exact hi.l16
      · exact (hbl hb).2
    have := si_ack (dup := decide (0 < n)) (bl := os'.map (Bk.ab ack)) (os' := os') hi hk (fun hle => (hbl hle).1) hlen (fun h => by rw [h1] at h; cases h) (fun hlt => by
      rcases hA with ⟨hb, e, _⟩ | ⟨hb, _⟩
      · exact e
      · omega)
    rw [show t.ns = false by unfold St.ns; rw [h1]; rfl] at this
    exact this
theorem ack_cm (h : CM Z cp t) (hi : SI t) (ack : Int) (hk : U ack) (dup : Bool) (bks : List (Int × Int)) (hbk : bks.length ≤ 100000) (pS : Option Addr) (cS : Nat) (Es : List (Nat × Obj)) (hRs : Row (.slice pS bks.length cS) bks.length (fl pc bks) 2 73 Es) (hdis : ∀ x, x ∈ Es → x.1 ∉ List.map Prod.fst Z) :
    SpK Tryz.prog 20 #[.pointer (some ⟨cp, 0, none⟩), .int .u32 ack, .bool dup, .slice pS bks.length cS] (Mem Es) Z (fun v F' => v = .tuple #[] ∧ ∃ t', AckT t ack dup bks t' ∧ CM F' cp t') := by
  rcases h with ⟨h1, h2, rfl⟩ | ⟨h1, sb, p, c, E, hR, rfl⟩
  · refine spk_weak (onAckN_spec cp t.s hi.ok ack hk dup _) (fun w h => trivial) (fun v F' ⟨a, b⟩ => ⟨a, _, .inl ⟨h1, rfl⟩, .inl ⟨h1, h2, b⟩⟩)
  · refine spk_weak (onAckS_spec cp t.s hi.ok hi.fl sb t.os hi.l16 p c E hR hi.bi ack hk dup bks hbk pS cS Es hRs hdis) (fun w h => h) (fun v F' ⟨a, os', n, bv', E', g1, g2, g3⟩ => ⟨a, _, .inr ⟨h1, os', n, g1, rfl⟩, .inr ?_⟩)
    obtain ⟨p', c', rfl⟩ := row_val g2
    exact ⟨h1, sb, p', c', E', g2, g3⟩
end cm
theorem new_cm (c : CF) (hc : CFok c) (gT : TypeId) (gv : Value) (GT : TypeId) (gf : Nat × Nat) : SpK Tryz.prog 5 #[.agg ⟨cfL c⟩] (fun w => w.heap[1]? = some (.cells ⟨[.iface gT gv]⟩ GT gf)) [] (fun v F' => (¬ CV c ∧ v = .tuple #[.pointer none, .iface gT gv] ∧ F' = []) ∨ (CV c ∧ ∃ cp, v = .tuple #[.pointer (some ⟨cp, 0, none⟩), .nilIface] ∧ CM F' cp ⟨c, newP c, []⟩)) :=
  spk_weak (new_spec c hc gT gv GT gf) (fun w h => h) (fun v F' h => h.imp id fun ⟨h1, cp, h2, h3⟩ => ⟨h1, cp, h2, h3.imp (fun ⟨a, b⟩ => ⟨a, rfl, b⟩) (fun ⟨a, sb, b⟩ => ⟨a, sb, none, 0, [], Row.nil _ _, b⟩)⟩)

end Go.Proofs.Qxb6500912aGreatDoor

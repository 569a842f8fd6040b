import Derived.Test.Qxb6500908aGreatW26
namespace Go.Proofs.Qxb6500908aGreat
open Go.Eng
set_option linter.unusedVariables false
set_option linter.unusedSimpArgs false
theorem fld55_2 : fieldOk Tryz.prog 55 2 2 = true := by kernel_rfl
theorem arr52 : arrOk Tryz.prog 52 16 1 = true := by kernel_rfl
theorem one51 : oneOk Tryz.prog 51 = true := by kernel_rfl
theorem cal41 : callable Tryz.prog 41 = true := by kernel_rfl
theorem fld55_4 : fieldOk Tryz.prog 55 4 19 = true := by kernel_rfl
theorem cal17 : callable Tryz.prog 17 = true := by kernel_rfl
/-! ## the world -/
structure WoV where
  lb : Nat
  l : LdV
  g : Option (Nat × GtV)
  ds : List (Nat × DeV)
  td : List Ms
  tp : Option Addr
  tc : Nat
  tE : List (Nat × Obj)
  tg : List Ms
  gp : Option Addr
  gc : Nat
  gE : List (Nat × Obj)
  hn : Bool
def ptr1 (b : Nat) : Value := .pointer (some ⟨b, 0, none⟩)
def gPtr : Option (Nat × GtV) → Value
  | none => .pointer none
  | some x => .pointer (some ⟨x.1, 0, none⟩)
def dsC (ds : List (Nat × DeV)) : List Value := ds.map (fun x => ptr1 x.1)
def WoV.t (W : WoV) : List Value := [.slice W.tp W.td.length W.tc, .slice W.gp W.tg.length W.gc, .bool W.hn]
def WoV.c (W : WoV) : List Value := (.pointer (some ⟨W.lb, 0, none⟩) :: gPtr W.g :: dsC W.ds) ++ W.t
def DsF (ds : List (Nat × DeV)) : List (Nat × Obj) := ds.flatMap (fun x => DeV.F x.1 x.2)
theorem dsF_split {ds : List (Nat × DeV)} {i : Nat} {x : Nat × DeV} (h : ds[i]? = some x) : DsF ds = DsF (ds.take i) ++ (DeV.F x.1 x.2 ++ DsF (ds.drop (i + 1))) := by
  have h1 : ds = ds.take i ++ x :: ds.drop (i + 1) := by
    obtain ⟨h1, h2⟩ := List.getElem?_eq_some_iff.1 h
    rw [← h2, List.getElem_cons_drop, List.take_append_drop]
  conv => lhs; rw [h1]
  unfold DsF
  rw [List.flatMap_append, List.flatMap_cons]
theorem dsF_set {ds : List (Nat × DeV)} {i : Nat} (h : i < ds.length) (x : Nat × DeV) : DsF (ds.set i x) = DsF (ds.take i) ++ (DeV.F x.1 x.2 ++ DsF (ds.drop (i + 1))) := by
  rw [dsF_split (ds := ds.set i x) (i := i) (x := x) (List.getElem?_set_self h), List.take_set_of_le (Nat.le_refl i), List.drop_set_of_lt (by omega)]
theorem dsC_set {ds : List (Nat × DeV)} {i b : Nat} {d d' : DeV} (h : ds[i]? = some (b, d)) : dsC (ds.set i (b, d')) = dsC ds := by
  unfold dsC
  rw [List.map_set]
  refine List.ext_getElem? fun j => ?_
  obtain ⟨h1, h2⟩ := List.getElem?_eq_some_iff.1 h
  by_cases e : i = j
  · subst e
    rw [List.getElem?_set_self (by rw [List.length_map]; exact h1), List.getElem?_map, h]; rfl
  · rw [List.getElem?_set_ne e]
section wvc
variable (W : WoV) (h : W.ds.length = 16)
include h
theorem wch_len : (Value.pointer (some ⟨W.lb, 0, none⟩) :: gPtr W.g :: dsC W.ds).length = 18 := by rw [List.length_cons, List.length_cons, dsC, List.length_map, h]
theorem wc_len : W.c.length = 21 := by unfold WoV.c; rw [List.length_append, wch_len W h]; rfl
theorem wc_at (j : Nat) : W.c[18 + j]? = W.t[j]? := get_app9 (wch_len W h)
theorem wc_td : W.c[0 + 18]? = some (.slice W.tp W.td.length W.tc) := wc_at W h 0
theorem wc_tg : W.c[0 + 19]? = some (.slice W.gp W.tg.length W.gc) := wc_at W h 1
theorem wc_hn : W.c[0 + 20]? = some (.bool W.hn) := wc_at W h 2
theorem wc_sat (j : Nat) (v : Value) : setL W.c (18 + j) [v] = (.pointer (some ⟨W.lb, 0, none⟩) :: gPtr W.g :: dsC W.ds) ++ setL W.t j [v] := set_app9 (wch_len W h)
theorem wc_std (p : Option Addr) (ms : List Ms) (c : Nat) (E : List (Nat × Obj)) : wst W.c (0 + 18) (.slice p ms.length c) = WoV.c { W with td := ms, tp := p, tc := c, tE := E } := wc_sat W h 0 _
theorem wc_stg (p : Option Addr) (ms : List Ms) (c : Nat) (E : List (Nat × Obj)) : wst W.c (0 + 19) (.slice p ms.length c) = WoV.c { W with tg := ms, gp := p, gc := c, gE := E } := wc_sat W h 1 _
theorem wc_std' (p : Option Addr) (ms : List Ms) (c : Nat) (E : List (Nat × Obj)) : setL W.c (0 + 18) [.slice p ms.length c] = WoV.c { W with td := ms, tp := p, tc := c, tE := E } := wc_sat W h 0 _
theorem wc_stg' (p : Option Addr) (ms : List Ms) (c : Nat) (E : List (Nat × Obj)) : setL W.c (0 + 19) [.slice p ms.length c] = WoV.c { W with tg := ms, gp := p, gc := c, gE := E } := wc_sat W h 1 _
theorem wc_dev {i : Nat} {x : Nat × DeV} (hx : W.ds[i]? = some x) : W.c[0 + 2 + i * 1]? = some (.pointer (some ⟨x.1, 0, none⟩)) := by
  have hi := (List.getElem?_eq_some_iff.1 hx).1
  unfold WoV.c
  rw [List.getElem?_append_left (by rw [wch_len W h]; omega), show 0 + 2 + i * 1 = i + 1 + 1 by omega, List.getElem?_cons_succ, List.getElem?_cons_succ]
  unfold dsC
  rw [List.getElem?_map, hx]; rfl
end wvc
theorem wc_led (W : WoV) : W.c[0 + 0]? = some (.pointer (some ⟨W.lb, 0, none⟩)) := rfl
theorem wc_g (W : WoV) : W.c[0 + 1]? = some (gPtr W.g) := rfl
theorem wc_sg (W : WoV) (g : Option (Nat × GtV)) : setL W.c (0 + 1) [gPtr g] = WoV.c { W with g := g } := rfl
theorem wc_same {W W' : WoV} (h1 : W'.lb = W.lb) (h2 : gPtr W'.g = gPtr W.g) (h3 : dsC W'.ds = dsC W.ds) (h4 : W'.t = W.t) : W'.c = W.c := by unfold WoV.c; rw [h1, h2, h3, h4]
def WoV.GF (W : WoV) (Z : List (Nat × Obj)) : List (Nat × Obj) := match W.g with
  | none => (W.lb, C W.l.c 91) :: (W.l.d.E ++ Z)
  | some x => Go.Proofs.Qxb6500908aGreat.GF x.1 x.2 W.l Z
def WoV.F (wb : Nat) (W : WoV) (Z : List (Nat × Obj)) : List (Nat × Obj) := (wb, C W.c 55) :: (W.tE ++ (W.gE ++ (DsF W.ds ++ W.GF Z)))
/-- the world, plainly; what a pump has in its hands is under way too -/
structure WoP where
  l : LdP
  g : Option GtP
  dv : List DeP
  td : List Ms
  tg : List Ms
  xd : List Ms
  xg : List Ms
  hn : Bool
def WoV.pl (W : WoV) (xd xg : List Ms) : WoP := ⟨W.l.pl, W.g.map (fun x => x.2.pl), W.ds.map (fun x => x.2.pl), W.td, W.tg, xd, xg, W.hn⟩
structure WoV.ok (Z : List (Nat × Obj)) (W : WoV) : Prop where
  l : W.l.ok Z
  g : ∀ x, W.g = some x → x.2.ok Z ∧ x.2.led = W.lb ∧ x.2.out = [] ∧ x.2.oE = []
  dl : W.ds.length = 16
  ds : ∀ x, x ∈ W.ds → x.2.ok
  t : ROWB W.tp W.td W.tc W.tE
  to : ∀ m, m ∈ W.td → m.ok ∧ m.d < 16
  tl : W.td.length ≤ 160
  r : ROWB W.gp W.tg W.gc W.gE
  ro : ∀ m, m ∈ W.tg → m.ok
  rl : W.tg.length ≤ 160
theorem WoV.ok.app {Z G : List (Nat × Obj)} {W : WoV} (h : W.ok Z) : W.ok (Z ++ G) := ⟨h.l.app, fun x hx => ⟨(h.g x hx).1.app, (h.g x hx).2⟩, h.dl, h.ds, h.t, h.to, h.tl, h.r, h.ro, h.rl⟩
def postO (bag : List Ms) : Option Ms → List Ms
  | none => bag
  | some m => postP bag [m]
theorem row1 (b size : Nat) (xs : List Value) (e : TypeId) (h : xs.length = size) : Row (.slice (some ⟨b, 0, none⟩) 1 1) 1 xs size e [(b, C xs e)] := .inr ⟨b, 1, [], rfl, by omega, by simp; omega, Nat.le_refl _, by simp⟩
theorem row1b (b : Nat) (m : Ms) : ROWB (some ⟨b, 0, none⟩) [m] 1 [(b, C (msc m) 38)] := by unfold ROWB; rw [fl_sing]; exact row1 b 8 (msc m) 38 (msc_len m)
/-- a message is handed to its device -/
def WoV.hnd (W : WoV) (i b : Nat) (d' : DeV) (ms : List Ms) (p : Option Addr) (c : Nat) (E : List (Nat × Obj)) : WoV := { W with ds := W.ds.set i (b, d'), tg := ms, gp := p, gc := c, gE := E }


theorem hand2 (db : Nat) (d : DeV) (hdo : d.ok) (m : Ms) (hm : m.ok) : Sp Tryz.prog 41 #[.pointer (some ⟨db, 0, none⟩), .agg ⟨msc m⟩] (DeV.F db d) (fun v F' => ∃ (d' : DeV) (rr : Ms) (bo : Bool), d'.ok ∧ d'.pl = (handP d.pl m).1 ∧ (bo = true → (handP d.pl m).2 = some rr ∧ rr.ok) ∧ (bo = false → (handP d.pl m).2 = none) ∧ v = .tuple #[.agg ⟨[.int .u8 rr.k, .int .u8 rr.d, .int .u32 rr.e, .int .u32 rr.b, .bool rr.y, .int .u32 rr.r, .int .u32 rr.s, .string rr.t]⟩, .bool bo] ∧ F' = DeV.F db d') := by
  refine sp_mono (hand_spec db d hdo m hm) fun v F h => ?_
  rcases h with ⟨d', h1, h2, h3, h4, h5⟩ | ⟨d', r', h1, h2, h3, h4, h5, h6⟩
  · exact ⟨d', ms0, false, h1, by rw [h3], fun h => (by cases h), fun _ => by rw [h3], h4, h5⟩
  · exact ⟨d', r', true, h1, by rw [h4], fun _ => ⟨by rw [h4], h3⟩, fun h => (by cases h), h5, h6⟩

attribute [local irreducible] NtV.k StV.c LdV.c StV.E GtV.c GtV.t orB sh1 WoV.c wst postP

set_option maxHeartbeats 4000000 in
theorem hando_spec (wb : Nat) (W : WoV) (hds : W.ds.length = 16) (hok : ∀ x, x ∈ W.ds → x.2.ok) (hR : ROWB W.gp W.tg W.gc W.gE) (hrl : W.tg.length ≤ 160) (m : Ms) (hm : m.ok) (hd : m.d < 16) : Sp Tryz.prog 20 #[.pointer (some ⟨wb, 0, none⟩), .agg ⟨msc m⟩] ((wb, C W.c 55) :: (W.gE ++ DsF W.ds)) (fun v F' => v = .tuple #[] ∧ ∃ (db : Nat) (d d' : DeV) (p : Option Addr) (c : Nat) (E : List (Nat × Obj)), W.ds[m.d.toNat]? = some (db, d) ∧ d'.ok ∧ d'.pl = (handP d.pl m).1 ∧ (∀ r, (handP d.pl m).2 = some r → r.ok) ∧ ROWB p (postO W.tg (handP d.pl m).2) c E ∧ F' = (wb, C (WoV.c (W.hnd m.d.toNat db d' (postO W.tg (handP d.pl m).2) p c E)) 55) :: (E ++ DsF (W.ds.set m.d.toNat (db, d')))) := by
  refine f_enter (args := [.pointer (some ⟨wb, 0, none⟩), .agg ⟨[.int .u8 m.k, .int .u8 m.d, .int .u32 m.e, .int .u32 m.b, .bool m.y, .int .u32 m.r, .int .u32 m.s, .string m.t]⟩]) Tryz.func20 rfl Tryz.ntmps20 rfl ?_
  intro w0 w a hpre hl hh
  generalize hDD : List.map Prod.fst ((wb, C W.c 55) :: (W.gE ++ DsF W.ds)) = D at hh ⊢
  have hi5 := hm.d
  obtain ⟨⟨db, d⟩, hx9⟩ : ∃ x, W.ds[m.d.toNat]? = some x := ⟨_, List.getElem?_eq_getElem (by omega)⟩
  have hdo := hok _ (List.mem_of_getElem? hx9)
  have hwl := wc_len W hds
  rw [dsF_split hx9] at hh
  simp only [DeV.F, List.cons_append, List.nil_append] at hh
  simp only [slotsFrom, Nat.reduceAdd] at hl
  refine c_seq ?_
  refine c_region ?_
  refine wl (w_box hl hh rfl trivial rfl rfl ?_)
  clear hl hh a w; intro k3 a w hl hh
  refine w_nil ?_
  have hl2 := hl.add (t := 0) (hl.add (t := 3) (hl.nil) rfl) rfl; clear hl; have hl := hl2; clear hl2
  refine then_normal ?_
  refine c_seq ?_
  refine c_draw [(wb, C W.c 55), (k3, C (msc m) 38)] [14] mixed hh ?_
  clear hh w; intro w hh
  have hM : Mem [(wb, C W.c 55), (k3, C (msc m) 38)] w := (memK hh (by repeat (first | exact keeps_nil | apply keeps_cons (by repeat (first | exact find_head | apply find_tail | apply find_skip)) (by first  | rfl) | exact keeps_self | exact keeps_left | apply keeps_app | apply keeps_mv | apply keeps_skip)))
  refine d_take (i := 0) hl rfl (by kernel_rfl) (by kernel_rfl) (by kernel_rfl) (by kernel_rfl) (by kernel_rfl) rfl trivial (fun _ _ _ h => h) hM (fun w hC => r_move hl rfl) rfl ?_
  clear hl a; intro a hl
  refine d_take (i := 1) hl rfl (by kernel_rfl) (by kernel_rfl) (by kernel_rfl) (by kernel_rfl) (by kernel_rfl) rfl trivial (fun _ _ _ h => h) hM (fun w hC => r_field hl rfl fld38_1) rfl ?_
  clear hl a; intro a hl
  refine d_take (i := 2) hl rfl (by kernel_rfl) (by kernel_rfl) (by kernel_rfl) (by kernel_rfl) (by kernel_rfl) rfl trivial (fun _ _ _ h => h) hM (fun w hC => r_loadC hl rfl one5 hC (by repeat (first | exact find_head | apply find_tail | apply find_skip)) (by first | exact wc_dev W hds hx9 | exact wc_tg W hds | rfl)) rfl ?_
  clear hl a; intro a hl
  refine d_take (i := 3) hl rfl (by kernel_rfl) (by kernel_rfl) (by kernel_rfl) (by kernel_rfl) (by kernel_rfl) rfl trivial (fun _ _ _ h => h) hM (fun w hC => r_nilCheck hl rfl) rfl ?_
  clear hl a; intro a hl
  refine d_take (i := 4) hl rfl (by kernel_rfl) (by kernel_rfl) (by kernel_rfl) (by kernel_rfl) (by kernel_rfl) rfl trivial (fun _ _ _ h => h) hM (fun w hC => r_field hl rfl fld55_2) rfl ?_
  clear hl a; intro a hl
  refine d_take (i := 5) hl rfl (by kernel_rfl) (by kernel_rfl) (by kernel_rfl) (by kernel_rfl) (by kernel_rfl) rfl trivial (fun _ _ _ h => h) hM (fun w hC => r_indexA hl rfl rfl arr52 (by omega) (by omega) (by first | (simp only [Int.reduceToNat]; rfl) | exact toNat_add1 _ | exact toNat_add2 _ _ | exact toNat_emod _ _ | exact Int.toNat_natCast _ | rfl)) rfl ?_
  clear hl a; intro a hl
  refine d_take (i := 6) hl rfl (by kernel_rfl) (by kernel_rfl) (by kernel_rfl) (by kernel_rfl) (by kernel_rfl) rfl trivial (fun _ _ _ h => h) hM (fun w hC => r_loadC hl rfl one51 hC (by repeat (first | exact find_head | apply find_tail | apply find_skip)) (by first | exact wc_dev W hds hx9 | exact wc_tg W hds | rfl)) rfl ?_
  clear hl a; intro a hl
  refine d_take (i := 7) hl rfl (by kernel_rfl) (by kernel_rfl) (by kernel_rfl) (by kernel_rfl) (by kernel_rfl) rfl trivial (fun _ _ _ h => h) hM (fun w hC => r_loadCA hl rfl agg38 hC (by repeat (first | exact find_head | apply find_tail | apply find_skip)) (by first | rfl) (by rfl)) rfl ?_
  clear hl a; intro a hl
  refine d_two (i := 8) (j := 12) (by kernel_rfl) rfl rfl ?_ ?_
  ·
    try clear hM
    refine id (w_call hl hh rfl trivial rfl cal41 rfl (hand2 db d hdo m hm) (by repeat (first | exact keeps_nil | apply keeps_cons (by repeat (first | exact find_head | apply find_tail | apply find_skip)) (by first  | rfl) | exact keeps_self | exact keeps_left | apply keeps_app | apply keeps_mv | apply keeps_skip)) trivial ?_)
    clear hl hh a w; intro vc Fc a w hR hl hh
    obtain ⟨d', r', bo, hok', hpl', hbt, hbf, rfl, rfl⟩ := hR
    try simp only [List.cons_append, List.nil_append, List.append_assoc, List.append_nil] at hh
    try simp only [DeV.F, List.cons_append, List.nil_append] at hh
    have hM : Mem [(wb, C W.c 55), (k3, C (msc m) 38)] w := (memK hh (by repeat (first | exact keeps_nil | apply keeps_cons (by repeat (first | exact find_head | apply find_tail | apply find_skip)) (by first  | rfl) | exact keeps_self | exact keeps_left | apply keeps_app | apply keeps_mv | apply keeps_skip)))
    refine d_step (fun _ => hM) ?_
    refine d_take (i := 9) hl rfl (by kernel_rfl) (by kernel_rfl) (by kernel_rfl) (by kernel_rfl) (by kernel_rfl) rfl trivial (fun _ _ _ h => h) hM (fun w hC => r_move hl rfl) rfl ?_
    clear hl a; intro a hl
    refine d_take (i := 10) hl rfl (by kernel_rfl) (by kernel_rfl) (by kernel_rfl) (by kernel_rfl) (by kernel_rfl) rfl trivial (fun _ _ _ h => h) hM (fun w hC => r_extract hl rfl (by simp only [List.getElem?_toArray, List.getElem?_cons_zero, List.getElem?_cons_succ]; rfl)) rfl ?_
    clear hl a; intro a hl
    refine d_take (i := 11) hl rfl (by kernel_rfl) (by kernel_rfl) (by kernel_rfl) (by kernel_rfl) (by kernel_rfl) rfl trivial (fun _ _ _ h => h) hM (fun w hC => r_extract hl rfl (by simp only [List.getElem?_toArray, List.getElem?_cons_zero, List.getElem?_cons_succ]; rfl)) rfl ?_
    clear hl a; intro a hl
    refine d_one (i := 12) (by kernel_rfl) rfl ?_
    try clear hM
    refine id (w_alloc hl hh rfl trivial zero38 rfl ?_)
    clear hl hh a w; intro k4 a w hl hh
    have hM : Mem [(wb, C W.c 55), (k3, C (msc m) 38)] w := (memK hh (by repeat (first | exact keeps_nil | apply keeps_cons (by repeat (first | exact find_head | apply find_tail | apply find_skip)) (by first  | rfl) | exact keeps_self | exact keeps_left | apply keeps_app | apply keeps_mv | apply keeps_skip)))
    refine d_step (fun _ => hM) ?_
    refine d_one (i := 13) (by kernel_rfl) rfl ?_
    try clear hM
    refine id (w_storeA hl hh trivial agg38 rfl rfl (by repeat (first | exact find_head | apply find_tail | apply find_skip)) (by rfl) (by exact Nat.le_refl 8) (by rfl) (by exact setL_all rfl) ?_)
    clear hh w; intro w hh
    have hM : Mem [(wb, C W.c 55), (k3, C (msc m) 38)] w := (memK hh (by repeat (first | exact keeps_nil | apply keeps_cons (by repeat (first | exact find_head | apply find_tail | apply find_skip)) (by first  | rfl) | exact keeps_self | exact keeps_left | apply keeps_app | apply keeps_mv | apply keeps_skip)))
    refine d_step (fun _ => hM) ?_
    refine d_takeL (i := 14) hl rfl (by kernel_rfl) (by kernel_rfl) (by kernel_rfl) (by kernel_rfl) (by kernel_rfl) rfl trivial (fun _ _ _ h => h) (fun w => r_assign hl rfl) rfl ?_
    clear hl a; intro a hl
    refine d_done (by kernel_rfl) ?_
    try clear hM
    have hl2 := hl.add (t := 0) (hl.add (t := 4) (hl.add (t := 5) (hl.nil) rfl) rfl) rfl; clear hl; have hl := hl2; clear hl2
    refine then_normal ?_
    refine c_seq ?_
    refine c_region ?_
    refine wl (wl_val hl rfl trivial (r_move hl rfl) ?_)
    clear hl a; intro a hl
    refine w_nil ?_
    have hl2 := hl.add (t := 0) (hl.add (t := 4) (hl.add (t := 18) (hl.nil) rfl) rfl) rfl; clear hl; have hl := hl2; clear hl2
    refine then_normal ?_
    refine c_cond hl rfl ?_ ?_
    · intro hc0
      try simp only [decide_eq_true_eq, decide_eq_false_iff_not, Bool.not_eq_true', Bool.not_eq_false', Bool.not_eq_true, Bool.not_eq_false, Bool.and_eq_true, Bool.or_eq_true, Bool.and_eq_false_iff, Bool.or_eq_false_iff, Bool.not_not, ne_eq, Int.not_lt, Int.not_le, Decidable.not_not, beq_iff_eq, bne_iff_ne] at hc0
      obtain ⟨hr1, hr2⟩ := hbt hc0
      refine c_draw [(wb, C W.c 55), (k4, C [.int .u8 r'.k, .int .u8 r'.d, .int .u32 r'.e, .int .u32 r'.b, .bool r'.y, .int .u32 r'.r, .int .u32 r'.s, .string r'.t] 38)] [5] mixed hh ?_
      clear hh w; intro w hh
      have hM : Mem [(wb, C W.c 55), (k4, C [.int .u8 r'.k, .int .u8 r'.d, .int .u32 r'.e, .int .u32 r'.b, .bool r'.y, .int .u32 r'.r, .int .u32 r'.s, .string r'.t] 38)] w := (memK hh (by repeat (first | exact keeps_nil | apply keeps_cons (by repeat (first | exact find_head | apply find_tail | apply find_skip)) (by first  | rfl) | exact keeps_self | exact keeps_left | apply keeps_app | apply keeps_mv | apply keeps_skip)))
      refine d_take (i := 0) hl rfl (by kernel_rfl) (by kernel_rfl) (by kernel_rfl) (by kernel_rfl) (by kernel_rfl) rfl trivial (fun _ _ _ h => h) hM (fun w hC => r_move hl rfl) rfl ?_
      clear hl a; intro a hl
      refine d_take (i := 1) hl rfl (by kernel_rfl) (by kernel_rfl) (by kernel_rfl) (by kernel_rfl) (by kernel_rfl) rfl trivial (fun _ _ _ h => h) hM (fun w hC => r_nilCheck hl rfl) rfl ?_
      clear hl a; intro a hl
      refine d_take (i := 2) hl rfl (by kernel_rfl) (by kernel_rfl) (by kernel_rfl) (by kernel_rfl) (by kernel_rfl) rfl trivial (fun _ _ _ h => h) hM (fun w hC => r_field hl rfl fld55_4) rfl ?_
      clear hl a; intro a hl
      refine d_take (i := 3) hl rfl (by kernel_rfl) (by kernel_rfl) (by kernel_rfl) (by kernel_rfl) (by kernel_rfl) rfl trivial (fun _ _ _ h => h) hM (fun w hC => r_loadCA hl rfl agg38 hC (by repeat (first | exact find_head | apply find_tail | apply find_skip)) (by first | rfl) (by rfl)) rfl ?_
      clear hl a; intro a hl
      refine d_one (i := 4) (by kernel_rfl) rfl ?_
      try clear hM
      refine id (w_buildSlice hl hh rfl trivial app53 zero38 rfl rfl rfl rfl rfl (fill1 rfl (msc_len _)) ?_)
      clear hl hh a w; intro k23 a w hl hh
      have hM : Mem [(wb, C W.c 55), (k4, C [.int .u8 r'.k, .int .u8 r'.d, .int .u32 r'.e, .int .u32 r'.b, .bool r'.y, .int .u32 r'.r, .int .u32 r'.s, .string r'.t] 38)] w := (memK hh (by repeat (first | exact keeps_nil | apply keeps_cons (by repeat (first | exact find_head | apply find_tail | apply find_skip)) (by first  | rfl) | exact keeps_self | exact keeps_left | apply keeps_app | apply keeps_mv | apply keeps_skip)))
      refine d_step (fun _ => hM) ?_
      refine d_one (i := 5) (by kernel_rfl) rfl ?_
      try clear hM
      refine id (w_call hl hh rfl trivial rfl cal17 rfl (post_spec wb W.c (0 + 19) W.tg W.gp W.gc W.gE hR (wc_tg W hds) hrl [r'] (some ⟨k23, 0, none⟩) 1 [(k23, C (msc r') 38)] (row1b k23 r') (by simp)) (by repeat (first | exact keeps_nil | apply keeps_cons (by repeat (first | exact find_head | apply find_tail | apply find_skip)) (by first  | rfl) | exact keeps_self | exact keeps_left | apply keeps_app | apply keeps_mv | apply keeps_skip)) trivial ?_)
      clear hl hh a w; intro vc Fc a w hR hl hh
      obtain ⟨rfl, p6, c6, E6, hR6, rfl⟩ := hR
      try simp only [List.cons_append, List.nil_append, List.append_assoc, List.append_nil] at hh
      rw [wc_stg W hds p6 _ c6 E6] at hh
      refine d_step (fun h => absurd h (by decide)) ?_
      refine d_done (by kernel_rfl) ?_
      try clear hM
      have hl2 := hl.nil; clear hl; have hl := hl2; clear hl2
      first
      | (have hq := hR6; refine f_end0 (F' := (wb, C (WoV.c { W with tg := postP W.tg [r'], gp := p6, gc := c6, gE := E6 }) 55) :: (E6 ++ (DsF (W.ds.take m.d.toNat) ++ ((db, C (DeV.c d') 94) :: ((d'.mb, MO (kInt .u32) d'.fm) :: DsF (W.ds.drop (m.d.toNat + 1))))))) hl hh rfl (by repeat (first | exact keeps_nil | apply keeps_cons (by repeat (first | exact find_head | apply find_tail | apply find_skip)) (by first  | rfl) | exact keeps_self | exact keeps_left | apply keeps_app | apply keeps_mv | apply keeps_skip)) ?_; refine ⟨rfl, db, d, d', p6, c6, E6, hx9, hok', hpl', fun r h => ?_, by rw [hr1]; exact hR6, ?_⟩; (rw [hr1] at h; injection h with h; rw [← h]; exact hr2); (rw [dsF_set (by omega), hr1]; simp only [DeV.F, List.cons_append, List.nil_append]; congr 3; refine (wc_same (W := { W with tg := postP W.tg [r'], gp := p6, gc := c6, gE := E6 }) (W' := W.hnd m.d.toNat db d' (postP W.tg [r']) p6 c6 E6) rfl rfl (dsC_set hx9) rfl).symm))
      | (refine f_end0 (F' := (wb, C (WoV.c W) 55) :: (W.gE ++ (DsF (W.ds.take m.d.toNat) ++ ((db, C (DeV.c d') 94) :: ((d'.mb, MO (kInt .u32) d'.fm) :: DsF (W.ds.drop (m.d.toNat + 1))))))) hl hh rfl (by repeat (first | exact keeps_nil | apply keeps_cons (by repeat (first | exact find_head | apply find_tail | apply find_skip)) (by first  | rfl) | exact keeps_self | exact keeps_left | apply keeps_app | apply keeps_mv | apply keeps_skip)) ?_; refine ⟨rfl, db, d, d', W.gp, W.gc, W.gE, hx9, hok', hpl', fun r h => ?_, by rw [hr0]; exact hR, ?_⟩; (rw [hr0] at h; cases h); (rw [dsF_set (by omega), hr0]; simp only [DeV.F, List.cons_append, List.nil_append]; congr 3; exact (wc_same (W := W) (W' := W.hnd m.d.toNat db d' W.tg W.gp W.gc W.gE) rfl rfl (dsC_set hx9) rfl).symm))
    · intro hc0
      try simp only [decide_eq_true_eq, decide_eq_false_iff_not, Bool.not_eq_true', Bool.not_eq_false', Bool.not_eq_true, Bool.not_eq_false, Bool.and_eq_true, Bool.or_eq_true, Bool.and_eq_false_iff, Bool.or_eq_false_iff, Bool.not_not, ne_eq, Int.not_lt, Int.not_le, Decidable.not_not, beq_iff_eq, bne_iff_ne] at hc0
      have hr0 := hbf hc0
      refine wp_skip ?_
      first
      | (have hq := hR6; refine f_end0 (F' := (wb, C (WoV.c { W with tg := postP W.tg [r'], gp := p6, gc := c6, gE := E6 }) 55) :: (E6 ++ (DsF (W.ds.take m.d.toNat) ++ ((db, C (DeV.c d') 94) :: ((d'.mb, MO (kInt .u32) d'.fm) :: DsF (W.ds.drop (m.d.toNat + 1))))))) hl hh rfl (by repeat (first | exact keeps_nil | apply keeps_cons (by repeat (first | exact find_head | apply find_tail | apply find_skip)) (by first  | rfl) | exact keeps_self | exact keeps_left | apply keeps_app | apply keeps_mv | apply keeps_skip)) ?_; refine ⟨rfl, db, d, d', p6, c6, E6, hx9, hok', hpl', fun r h => ?_, by rw [hr1]; exact hR6, ?_⟩; (rw [hr1] at h; injection h with h; rw [← h]; exact hr2); (rw [dsF_set (by omega), hr1]; simp only [DeV.F, List.cons_append, List.nil_append]; congr 3; refine (wc_same (W := { W with tg := postP W.tg [r'], gp := p6, gc := c6, gE := E6 }) (W' := W.hnd m.d.toNat db d' (postP W.tg [r']) p6 c6 E6) rfl rfl (dsC_set hx9) rfl).symm))
      | (refine f_end0 (F' := (wb, C (WoV.c W) 55) :: (W.gE ++ (DsF (W.ds.take m.d.toNat) ++ ((db, C (DeV.c d') 94) :: ((d'.mb, MO (kInt .u32) d'.fm) :: DsF (W.ds.drop (m.d.toNat + 1))))))) hl hh rfl (by repeat (first | exact keeps_nil | apply keeps_cons (by repeat (first | exact find_head | apply find_tail | apply find_skip)) (by first  | rfl) | exact keeps_self | exact keeps_left | apply keeps_app | apply keeps_mv | apply keeps_skip)) ?_; refine ⟨rfl, db, d, d', W.gp, W.gc, W.gE, hx9, hok', hpl', fun r h => ?_, by rw [hr0]; exact hR, ?_⟩; (rw [hr0] at h; cases h); (rw [dsF_set (by omega), hr0]; simp only [DeV.F, List.cons_append, List.nil_append]; congr 3; exact (wc_same (W := W) (W' := W.hnd m.d.toNat db d' W.tg W.gp W.gc W.gE) rfl rfl (dsC_set hx9) rfl).symm))
  ·
    try clear hM
    refine id (w_alloc hl hh rfl trivial zero38 rfl ?_)
    clear hl hh a w; intro k4 a w hl hh
    have hM : Mem [(wb, C W.c 55), (k3, C (msc m) 38)] w := (memK hh (by repeat (first | exact keeps_nil | apply keeps_cons (by repeat (first | exact find_head | apply find_tail | apply find_skip)) (by first  | rfl) | exact keeps_self | exact keeps_left | apply keeps_app | apply keeps_mv | apply keeps_skip)))
    refine d_step (fun _ => hM) ?_
    refine d_one (i := 8) (by kernel_rfl) rfl ?_
    try clear hM
    refine id (w_call hl hh rfl trivial rfl cal41 rfl (hand2 db d hdo m hm) (by repeat (first | exact keeps_nil | apply keeps_cons (by repeat (first | exact find_head | apply find_tail | apply find_skip)) (by first  | rfl) | exact keeps_self | exact keeps_left | apply keeps_app | apply keeps_mv | apply keeps_skip)) trivial ?_)
    clear hl hh a w; intro vc Fc a w hR hl hh
    obtain ⟨d', r', bo, hok', hpl', hbt, hbf, rfl, rfl⟩ := hR
    try simp only [List.cons_append, List.nil_append, List.append_assoc, List.append_nil] at hh
    try simp only [DeV.F, List.cons_append, List.nil_append] at hh
    have hM : Mem [(wb, C W.c 55), (k3, C (msc m) 38)] w := (memK hh (by repeat (first | exact keeps_nil | apply keeps_cons (by repeat (first | exact find_head | apply find_tail | apply find_skip)) (by first  | rfl) | exact keeps_self | exact keeps_left | apply keeps_app | apply keeps_mv | apply keeps_skip)))
    refine d_step (fun _ => hM) ?_
    refine d_take (i := 9) hl rfl (by kernel_rfl) (by kernel_rfl) (by kernel_rfl) (by kernel_rfl) (by kernel_rfl) rfl trivial (fun _ _ _ h => h) hM (fun w hC => r_move hl rfl) rfl ?_
    clear hl a; intro a hl
    refine d_take (i := 10) hl rfl (by kernel_rfl) (by kernel_rfl) (by kernel_rfl) (by kernel_rfl) (by kernel_rfl) rfl trivial (fun _ _ _ h => h) hM (fun w hC => r_extract hl rfl (by simp only [List.getElem?_toArray, List.getElem?_cons_zero, List.getElem?_cons_succ]; rfl)) rfl ?_
    clear hl a; intro a hl
    refine d_take (i := 11) hl rfl (by kernel_rfl) (by kernel_rfl) (by kernel_rfl) (by kernel_rfl) (by kernel_rfl) rfl trivial (fun _ _ _ h => h) hM (fun w hC => r_extract hl rfl (by simp only [List.getElem?_toArray, List.getElem?_cons_zero, List.getElem?_cons_succ]; rfl)) rfl ?_
    clear hl a; intro a hl
    refine d_one (i := 13) (by kernel_rfl) rfl ?_
    try clear hM
    refine id (w_storeA hl hh trivial agg38 rfl rfl (by repeat (first | exact find_head | apply find_tail | apply find_skip)) (by rfl) (by exact Nat.le_refl 8) (by rfl) (by exact setL_all rfl) ?_)
    clear hh w; intro w hh
    have hM : Mem [(wb, C W.c 55), (k3, C (msc m) 38)] w := (memK hh (by repeat (first | exact keeps_nil | apply keeps_cons (by repeat (first | exact find_head | apply find_tail | apply find_skip)) (by first  | rfl) | exact keeps_self | exact keeps_left | apply keeps_app | apply keeps_mv | apply keeps_skip)))
    refine d_step (fun _ => hM) ?_
    refine d_takeL (i := 14) hl rfl (by kernel_rfl) (by kernel_rfl) (by kernel_rfl) (by kernel_rfl) (by kernel_rfl) rfl trivial (fun _ _ _ h => h) (fun w => r_assign hl rfl) rfl ?_
    clear hl a; intro a hl
    refine d_done (by kernel_rfl) ?_
    try clear hM
    have hl2 := hl.add (t := 0) (hl.add (t := 4) (hl.add (t := 5) (hl.nil) rfl) rfl) rfl; clear hl; have hl := hl2; clear hl2
    refine then_normal ?_
    refine c_seq ?_
    refine c_region ?_
    refine wl (wl_val hl rfl trivial (r_move hl rfl) ?_)
    clear hl a; intro a hl
    refine w_nil ?_
    have hl2 := hl.add (t := 0) (hl.add (t := 4) (hl.add (t := 18) (hl.nil) rfl) rfl) rfl; clear hl; have hl := hl2; clear hl2
    refine then_normal ?_
    refine c_cond hl rfl ?_ ?_
    · intro hc0
      try simp only [decide_eq_true_eq, decide_eq_false_iff_not, Bool.not_eq_true', Bool.not_eq_false', Bool.not_eq_true, Bool.not_eq_false, Bool.and_eq_true, Bool.or_eq_true, Bool.and_eq_false_iff, Bool.or_eq_false_iff, Bool.not_not, ne_eq, Int.not_lt, Int.not_le, Decidable.not_not, beq_iff_eq, bne_iff_ne] at hc0
      obtain ⟨hr1, hr2⟩ := hbt hc0
      refine c_draw [(wb, C W.c 55), (k4, C [.int .u8 r'.k, .int .u8 r'.d, .int .u32 r'.e, .int .u32 r'.b, .bool r'.y, .int .u32 r'.r, .int .u32 r'.s, .string r'.t] 38)] [5] mixed hh ?_
      clear hh w; intro w hh
      have hM : Mem [(wb, C W.c 55), (k4, C [.int .u8 r'.k, .int .u8 r'.d, .int .u32 r'.e, .int .u32 r'.b, .bool r'.y, .int .u32 r'.r, .int .u32 r'.s, .string r'.t] 38)] w := (memK hh (by repeat (first | exact keeps_nil | apply keeps_cons (by repeat (first | exact find_head | apply find_tail | apply find_skip)) (by first  | rfl) | exact keeps_self | exact keeps_left | apply keeps_app | apply keeps_mv | apply keeps_skip)))
      refine d_take (i := 0) hl rfl (by kernel_rfl) (by kernel_rfl) (by kernel_rfl) (by kernel_rfl) (by kernel_rfl) rfl trivial (fun _ _ _ h => h) hM (fun w hC => r_move hl rfl) rfl ?_
      clear hl a; intro a hl
      refine d_take (i := 1) hl rfl (by kernel_rfl) (by kernel_rfl) (by kernel_rfl) (by kernel_rfl) (by kernel_rfl) rfl trivial (fun _ _ _ h => h) hM (fun w hC => r_nilCheck hl rfl) rfl ?_
      clear hl a; intro a hl
      refine d_take (i := 2) hl rfl (by kernel_rfl) (by kernel_rfl) (by kernel_rfl) (by kernel_rfl) (by kernel_rfl) rfl trivial (fun _ _ _ h => h) hM (fun w hC => r_field hl rfl fld55_4) rfl ?_
      clear hl a; intro a hl
      refine d_take (i := 3) hl rfl (by kernel_rfl) (by kernel_rfl) (by kernel_rfl) (by kernel_rfl) (by kernel_rfl) rfl trivial (fun _ _ _ h => h) hM (fun w hC => r_loadCA hl rfl agg38 hC (by repeat (first | exact find_head | apply find_tail | apply find_skip)) (by first | rfl) (by rfl)) rfl ?_
      clear hl a; intro a hl
      refine d_one (i := 4) (by kernel_rfl) rfl ?_
      try clear hM
      refine id (w_buildSlice hl hh rfl trivial app53 zero38 rfl rfl rfl rfl rfl (fill1 rfl (msc_len _)) ?_)
      clear hl hh a w; intro k23 a w hl hh
      have hM : Mem [(wb, C W.c 55), (k4, C [.int .u8 r'.k, .int .u8 r'.d, .int .u32 r'.e, .int .u32 r'.b, .bool r'.y, .int .u32 r'.r, .int .u32 r'.s, .string r'.t] 38)] w := (memK hh (by repeat (first | exact keeps_nil | apply keeps_cons (by repeat (first | exact find_head | apply find_tail | apply find_skip)) (by first  | rfl) | exact keeps_self | exact keeps_left | apply keeps_app | apply keeps_mv | apply keeps_skip)))
      refine d_step (fun _ => hM) ?_
      refine d_one (i := 5) (by kernel_rfl) rfl ?_
      try clear hM
      refine id (w_call hl hh rfl trivial rfl cal17 rfl (post_spec wb W.c (0 + 19) W.tg W.gp W.gc W.gE hR (wc_tg W hds) hrl [r'] (some ⟨k23, 0, none⟩) 1 [(k23, C (msc r') 38)] (row1b k23 r') (by simp)) (by repeat (first | exact keeps_nil | apply keeps_cons (by repeat (first | exact find_head | apply find_tail | apply find_skip)) (by first  | rfl) | exact keeps_self | exact keeps_left | apply keeps_app | apply keeps_mv | apply keeps_skip)) trivial ?_)
      clear hl hh a w; intro vc Fc a w hR hl hh
      obtain ⟨rfl, p6, c6, E6, hR6, rfl⟩ := hR
      try simp only [List.cons_append, List.nil_append, List.append_assoc, List.append_nil] at hh
      rw [wc_stg W hds p6 _ c6 E6] at hh
      refine d_step (fun h => absurd h (by decide)) ?_
      refine d_done (by kernel_rfl) ?_
      try clear hM
      have hl2 := hl.nil; clear hl; have hl := hl2; clear hl2
      first
      | (have hq := hR6; refine f_end0 (F' := (wb, C (WoV.c { W with tg := postP W.tg [r'], gp := p6, gc := c6, gE := E6 }) 55) :: (E6 ++ (DsF (W.ds.take m.d.toNat) ++ ((db, C (DeV.c d') 94) :: ((d'.mb, MO (kInt .u32) d'.fm) :: DsF (W.ds.drop (m.d.toNat + 1))))))) hl hh rfl (by repeat (first | exact keeps_nil | apply keeps_cons (by repeat (first | exact find_head | apply find_tail | apply find_skip)) (by first  | rfl) | exact keeps_self | exact keeps_left | apply keeps_app | apply keeps_mv | apply keeps_skip)) ?_; refine ⟨rfl, db, d, d', p6, c6, E6, hx9, hok', hpl', fun r h => ?_, by rw [hr1]; exact hR6, ?_⟩; (rw [hr1] at h; injection h with h; rw [← h]; exact hr2); (rw [dsF_set (by omega), hr1]; simp only [DeV.F, List.cons_append, List.nil_append]; congr 3; refine (wc_same (W := { W with tg := postP W.tg [r'], gp := p6, gc := c6, gE := E6 }) (W' := W.hnd m.d.toNat db d' (postP W.tg [r']) p6 c6 E6) rfl rfl (dsC_set hx9) rfl).symm))
      | (refine f_end0 (F' := (wb, C (WoV.c W) 55) :: (W.gE ++ (DsF (W.ds.take m.d.toNat) ++ ((db, C (DeV.c d') 94) :: ((d'.mb, MO (kInt .u32) d'.fm) :: DsF (W.ds.drop (m.d.toNat + 1))))))) hl hh rfl (by repeat (first | exact keeps_nil | apply keeps_cons (by repeat (first | exact find_head | apply find_tail | apply find_skip)) (by first  | rfl) | exact keeps_self | exact keeps_left | apply keeps_app | apply keeps_mv | apply keeps_skip)) ?_; refine ⟨rfl, db, d, d', W.gp, W.gc, W.gE, hx9, hok', hpl', fun r h => ?_, by rw [hr0]; exact hR, ?_⟩; (rw [hr0] at h; cases h); (rw [dsF_set (by omega), hr0]; simp only [DeV.F, List.cons_append, List.nil_append]; congr 3; exact (wc_same (W := W) (W' := W.hnd m.d.toNat db d' W.tg W.gp W.gc W.gE) rfl rfl (dsC_set hx9) rfl).symm))
    · intro hc0
      try simp only [decide_eq_true_eq, decide_eq_false_iff_not, Bool.not_eq_true', Bool.not_eq_false', Bool.not_eq_true, Bool.not_eq_false, Bool.and_eq_true, Bool.or_eq_true, Bool.and_eq_false_iff, Bool.or_eq_false_iff, Bool.not_not, ne_eq, Int.not_lt, Int.not_le, Decidable.not_not, beq_iff_eq, bne_iff_ne] at hc0
      have hr0 := hbf hc0
      refine wp_skip ?_
      first
      | (have hq := hR6; refine f_end0 (F' := (wb, C (WoV.c { W with tg := postP W.tg [r'], gp := p6, gc := c6, gE := E6 }) 55) :: (E6 ++ (DsF (W.ds.take m.d.toNat) ++ ((db, C (DeV.c d') 94) :: ((d'.mb, MO (kInt .u32) d'.fm) :: DsF (W.ds.drop (m.d.toNat + 1))))))) hl hh rfl (by repeat (first | exact keeps_nil | apply keeps_cons (by repeat (first | exact find_head | apply find_tail | apply find_skip)) (by first  | rfl) | exact keeps_self | exact keeps_left | apply keeps_app | apply keeps_mv | apply keeps_skip)) ?_; refine ⟨rfl, db, d, d', p6, c6, E6, hx9, hok', hpl', fun r h => ?_, by rw [hr1]; exact hR6, ?_⟩; (rw [hr1] at h; injection h with h; rw [← h]; exact hr2); (rw [dsF_set (by omega), hr1]; simp only [DeV.F, List.cons_append, List.nil_append]; congr 3; refine (wc_same (W := { W with tg := postP W.tg [r'], gp := p6, gc := c6, gE := E6 }) (W' := W.hnd m.d.toNat db d' (postP W.tg [r']) p6 c6 E6) rfl rfl (dsC_set hx9) rfl).symm))
      | (refine f_end0 (F' := (wb, C (WoV.c W) 55) :: (W.gE ++ (DsF (W.ds.take m.d.toNat) ++ ((db, C (DeV.c d') 94) :: ((d'.mb, MO (kInt .u32) d'.fm) :: DsF (W.ds.drop (m.d.toNat + 1))))))) hl hh rfl (by repeat (first | exact keeps_nil | apply keeps_cons (by repeat (first | exact find_head | apply find_tail | apply find_skip)) (by first  | rfl) | exact keeps_self | exact keeps_left | apply keeps_app | apply keeps_mv | apply keeps_skip)) ?_; refine ⟨rfl, db, d, d', W.gp, W.gc, W.gE, hx9, hok', hpl', fun r h => ?_, by rw [hr0]; exact hR, ?_⟩; (rw [hr0] at h; cases h); (rw [dsF_set (by omega), hr0]; simp only [DeV.F, List.cons_append, List.nil_append]; congr 3; exact (wc_same (W := W) (W' := W.hnd m.d.toNat db d' W.tg W.gp W.gc W.gE) rfl rfl (dsC_set hx9) rfl).symm))
end Go.Proofs.Qxb6500908aGreat

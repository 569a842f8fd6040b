import Derived.Test.Qxb6500915aGreatDoorH2
namespace Go.Proofs.Qxb6500915aGreatDoor
open Go.Eng
set_option linter.unusedVariables false
set_option linter.unusedSimpArgs false
theorem slc132 : slcOk Tryz.prog 132 3 = true := by kernel_rfl
theorem cal57 : callable Tryz.prog 57 = true := by kernel_rfl
theorem slc133 : slcOk Tryz.prog 133 2 = true := by kernel_rfl
theorem zero181 : zeroOk Tryz.prog 181 (.agg #[(.int .i64 0), (.int .i64 0)]) := by unfold zeroOk; kernel_rfl
theorem bld181 : buildOk Tryz.prog 181 [(0, 1), (1, 1)] = true := by kernel_rfl
theorem app133 : appOk Tryz.prog 133 181 2 16 = true := by kernel_rfl
/-! ## the least next reading -/
theorem nb_mem {np : Option Addr} {jn : List Value} {num : List Int} {z : Nat × Obj} (h : z ∈ nbE np jn num) : ∃ l, z.2 = C l 3 := by
  cases np with
  | none => cases h
  | some a => rw [List.mem_singleton.1 h]; exact ⟨_, rfl⟩
theorem read_ro (X : SX) (Z : List (Nat × Obj)) (hX : SIn X Z) (s : SQ) (fb so : Nat) (fc : List Value) (hS : StA Z s fb so fc) (hok : s.ok X.vs) (x : LV) (hx : x ∈ X.xs) :
    SpK Tryz.prog 57 #[.slice x.p x.l.a.length x.c, .pointer (some ⟨fb, so, none⟩), .bool false] (Mem Z) [] (fun u F' => Row u x.l.a.length (fl tmc (rdTs (s.num, s.nx) x.l.a).2) 4 54 F') := by
  intro w hp h1 h2
  have hxo := hX.ok x hx
  have hE : ∀ z, z ∈ x.E → z ∈ Z := fun z hz => hX.e x z hx hz
  have hfn : ∀ z, z ∈ nbE s.np s.jn s.num → fb ≠ z.1 := fun z hz => by
    obtain ⟨l, e⟩ := nb_mem hz
    exact blk_ne hp hS.f (show (z.1, C l 3) ∈ Z by rw [← e]; exact hS.nb z hz) (by decide)
  obtain ⟨_, hs1, hs2⟩ := hS.at_
  have hr := read_back fb so fc 129 s.num s.np s.nc s.jn hok.n s.nx x.l.a x.p x.c x.E hxo.ags (fun z hz hm => by
    obtain ⟨l, e⟩ := ags_blk hxo.ags hz
    have hz1 : (z.1, C l 54) ∈ Z := by rw [← e]; exact hE z hz
    rcases List.mem_cons.1 hm with h3 | h3
    · exact blk_ne hp hz1 hS.f (by decide) h3
    · obtain ⟨u, hu, h4⟩ := List.mem_map.1 h3
      obtain ⟨l', e'⟩ := nb_mem hu
      exact blk_ne hp hz1 (show (u.1, C l' 3) ∈ Z by rw [← e']; exact hS.nb u hu) (by decide) h4.symm) hs1 hs2 (fun t ht hk => by rw [hok.len]; exact hX.vb x t hx ht hk) (by rw [hok.len]; exact hX.v6) hok.nx (fun u => (hok.lt u).2)
  refine spK_borrow (R' := fun u F' => Row u x.l.a.length (fl tmc (rdTs (s.num, s.nx) x.l.a).2) 4 54 F') hr ?_ w ⟨?_, ?_, ?_⟩ h1 h2
  · rintro v F' ⟨Eo, hrow, rfl⟩
    refine ⟨Eo, ?_, hrow⟩
    rw [← List.cons_append]
    exact List.perm_append_comm
  · exact fun b o m => hp b o (hE _ m)
  · intro b' o m
    rcases List.mem_cons.1 m with e | m
    · cases e; exact hp _ _ hS.f
    · exact hp _ _ (hS.nb _ m)
  · rw [List.map_cons, List.nodup_cons]
    refine ⟨fun hm => ?_, ?_⟩
    · obtain ⟨u, hu, h4⟩ := List.mem_map.1 hm
      exact hfn u hu h4.symm
    · unfold nbE; cases s.np <;> simp
abbrev Core := Int × Nm
def SQ.core (s : SQ) : Core := (s.pl, (s.num, s.nx))
def rdL (n : Nm) (l : Lt) : Lt := ⟨l.k, l.o, l.p, (rdTs n l.a).2⟩
abbrev Acc := Lt × List (Nat × Nat)
def lt0 : Lt := ⟨0, 0, ⟨#[]⟩, []⟩
def lv0 : LV := ⟨lt0, none, 0, []⟩
theorem lv0_ok : lv0.ok := ⟨⟨Row.nil _ _, Nat.zero_le _, fun t ht => (by cases ht)⟩, by decide, by decide, by decide⟩
def lstep (acc : Acc) (si li : Nat) (c : Core) (l : Lt) : Acc :=
  if bitsOf .and .u64 c.1 (sh64 li) = 0 then (if acc.2 = [] ∨ cmpL (rdL c.2 l) acc.1 < 0 then (rdL c.2 l, [(si, li)]) else if cmpL (rdL c.2 l) acc.1 = 0 then (acc.1, acc.2 ++ [(si, li)]) else acc) else acc
def innerP (B : List Lt) (si : Nat) (c : Core) : Nat → Acc → Acc
  | 0, acc => acc
  | n + 1, acc => match B[n]? with
    | some l => lstep (innerP B si c n acc) si n c l
    | none => innerP B si c n acc
def outerP (B : List Lt) (cs : List Core) : Nat → Acc
  | 0 => (lt0, [])
  | m + 1 => match cs[m]? with
    | some c => innerP B m c B.length (outerP B cs m)
    | none => outerP B cs m
theorem inner_succ {B : List Lt} {si : Nat} {c : Core} {n : Nat} {acc : Acc} {l : Lt} (h : B[n]? = some l) : innerP B si c (n + 1) acc = lstep (innerP B si c n acc) si n c l := by
  show (match B[n]? with | some l => lstep (innerP B si c n acc) si n c l | none => innerP B si c n acc) = _
  rw [h]
theorem outer_succ {B : List Lt} {cs : List Core} {m : Nat} {c : Core} (h : cs[m]? = some c) : outerP B cs (m + 1) = innerP B m c B.length (outerP B cs m) := by
  show (match cs[m]? with | some c => innerP B m c B.length (outerP B cs m) | none => outerP B cs m) = _
  rw [h]
theorem ls_placed {acc : Acc} {si li : Nat} {c : Core} {l : Lt} (h : ¬ bitsOf .and .u64 c.1 (sh64 li) = 0) : lstep acc si li c l = acc := by unfold lstep; rw [if_neg h]
theorem ls_new {acc : Acc} {si li : Nat} {c : Core} {l : Lt} (h : bitsOf .and .u64 c.1 (sh64 li) = 0) (h0 : acc.2 = [] ∨ cmpL (rdL c.2 l) acc.1 < 0) : lstep acc si li c l = (rdL c.2 l, [(si, li)]) := by unfold lstep; rw [if_pos h, if_pos h0]
theorem ls_eq {acc : Acc} {si li : Nat} {c : Core} {l : Lt} (h : bitsOf .and .u64 c.1 (sh64 li) = 0) (h0 : acc.2 ≠ []) (h1 : cmpL (rdL c.2 l) acc.1 = 0) : lstep acc si li c l = (acc.1, acc.2 ++ [(si, li)]) := by
  unfold lstep; rw [if_pos h, if_neg (fun h9 => h9.elim h0 (fun h8 => by omega)), if_pos h1]
theorem ls_gt {acc : Acc} {si li : Nat} {c : Core} {l : Lt} (h : bitsOf .and .u64 c.1 (sh64 li) = 0) (h0 : acc.2 ≠ []) (h1 : 0 < cmpL (rdL c.2 l) acc.1) : lstep acc si li c l = acc := by
  unfold lstep; rw [if_pos h, if_neg (fun h9 => h9.elim h0 (fun h8 => by omega)), if_neg (by omega)]
structure FrI (X : SX) (Z : List (Nat × Obj)) (bs : List SQ) (fb : Nat) (jf : List Value) : Prop where
  f : (fb, C (fl SQ.cells bs ++ jf) 129) ∈ Z
  nb : ∀ s z, s ∈ bs → z ∈ nbE s.np s.jn s.num → z ∈ Z
  ok : ∀ s, s ∈ bs → s.ok X.vs
theorem FrI.st {X : SX} {Z : List (Nat × Obj)} {bs : List SQ} {fb : Nat} {jf : List Value} (h : FrI X Z bs fb jf) {i : Nat} {s : SQ} (hi : bs[i]? = some s) : StA Z s fb (0 + i * 3) (fl SQ.cells bs ++ jf) := ⟨h.f, fun z hz => h.nb s z (List.mem_of_getElem? hi) hz, fl_at sb_len hi jf⟩
theorem FrI.mono {X : SX} {Z Z' : List (Nat × Obj)} {bs : List SQ} {fb : Nat} {jf : List Value} (h : FrI X Z bs fb jf) (hz : ∀ x, x ∈ Z → x ∈ Z') : FrI X Z' bs fb jf := ⟨hz _ h.f, fun s z h1 h2 => hz _ (h.nb s z h1 h2), h.ok⟩
structure LN9 where
  i : Nat
  ac : Acc
  pp : Option Addr
  pc : Nat
  Ep : List (Nat × Obj)
  y : LV
structure LNI (s : LN9) (ac : Acc) (m : Nat) : Prop where
  ac : s.ac = ac
  row : Row (.slice s.pp s.ac.2.length s.pc) s.ac.2.length (fl qc2 s.ac.2) 2 181 s.Ep
  yl : s.y.l = s.ac.1
  yo : s.y.ok
  m : s.ac.2.length ≤ m
theorem rdl_ok {X : SX} {s : SQ} (hok : s.ok X.vs) {x : LV} (hx : x.ok) {p : Option Addr} {c : Nat} {E : List (Nat × Obj)} (hR : Row (.slice p x.l.a.length c) x.l.a.length (fl tmc (rdTs (s.num, s.nx) x.l.a).2) 4 54 E) : LV.ok ⟨rdL (s.num, s.nx) x.l, p, c, E⟩ := by
  have hl : (rdTs (s.num, s.nx) x.l.a).2.length = x.l.a.length := rdTs_len _ _
  refine ⟨⟨?_, by show (rdTs (s.num, s.nx) x.l.a).2.length ≤ _; rw [hl]; exact hx.ags.len, ?_⟩, hx.k, hx.o, hx.p⟩
  · show Row (.slice p (rdTs (s.num, s.nx) x.l.a).2.length c) (rdTs (s.num, s.nx) x.l.a).2.length _ 4 54 E
    rw [hl]; exact hR
  · exact rd_ok hx.ags.ok hok.nx hx.ags.len fun v => ⟨(hok.lt v).1, by have := (hok.lt v).2; have := hok.nx.2; simp only; omega⟩
def SX.B (X : SX) : List Lt := X.xs.map LV.l
theorem SX.at_ {X : SX} {j : Nat} {x : LV} (h : X.xs[j]? = some x) : X.B[j]? = some x.l := by unfold SX.B; rw [List.getElem?_map, h]; rfl
theorem SX.bl (X : SX) : X.B.length = X.xs.length := by unfold SX.B; rw [List.length_map]


set_option maxHeartbeats 16000000 in
theorem least_spec (X : SX) (Z : List (Nat × Obj)) (hX : SIn X Z) (bs : List SQ) (fb cap : Nat) (jf : List Value) (hF : FrI X Z bs fb jf) (hbl : bs.length ≤ 100000) : SpK Tryz.prog 58 #[.pointer (some ⟨X.sb, 0, none⟩), .slice (some ⟨fb, 0, none⟩) bs.length cap] (Mem Z) [] (fun v F' => ∃ (y : LV) (pp : Option Addr) (pc : Nat) (Ep : List (Nat × Obj)), y.ok ∧ y.l = (outerP X.B (bs.map SQ.core) bs.length).1 ∧ Row (.slice pp (outerP X.B (bs.map SQ.core) bs.length).2.length pc) (outerP X.B (bs.map SQ.core) bs.length).2.length (fl qc2 (outerP X.B (bs.map SQ.core) bs.length).2) 2 181 Ep ∧ v = .tuple #[.agg ⟨[.int .u8 y.l.k, .int .u8 y.l.o, .string y.l.p, .slice y.p y.l.a.length y.c]⟩, .slice pp (outerP X.B (bs.map SQ.core) bs.length).2.length pc] ∧ F' = Ep ++ y.E) := by
  refine f_enter (args := [.pointer (some ⟨X.sb, 0, none⟩), .slice (some ⟨fb, 0, none⟩) bs.length cap]) Tryz.func58 rfl Tryz.ntmps58 rfl ?_
  intro w0 w a hpre hl hh
  have hms := hpre _ _ hX.s; have hmb := hpre _ _ hX.b; have hmf := hpre _ _ hF.f
  have h64 := hX.n64
  simp only [slotsFrom, Nat.reduceAdd] at hl
  refine c_seq ?_
  refine c_region ?_
  refine wl (w_alloc hl hh rfl trivial zero48 rfl ?_)
  clear hl hh a w; intro k4 a w hl hh
  refine wl (wl_val hl rfl trivial (r_assign hl rfl) ?_)
  clear hl a; intro a hl
  refine w_nil ?_
  have hl2 := hl.add (t := 0) (hl.add (t := 1) (hl.add (t := 4) (hl.add (t := 5) (hl.nil) rfl) rfl) rfl) rfl; clear hl; have hl := hl2; clear hl2
  refine then_normal ?_
  refine c_seq ?_
  refine c_seq ?_
  refine c_region ?_
  refine wl (wl_val hl rfl trivial (r_move hl rfl) ?_)
  clear hl a; intro a hl
  refine wl (wl_val hl rfl trivial (r_lenS hl rfl slc132) ?_)
  clear hl a; intro a hl
  refine wl (wl_val hl rfl trivial (r_move hl rfl) ?_)
  clear hl a; intro a hl
  refine w_nil ?_
  have hl2 := hl.add (t := 0) (hl.add (t := 1) (hl.add (t := 4) (hl.add (t := 5) (hl.add (t := 12) (hl.add (t := 13) (hl.nil) rfl) rfl) rfl) rfl) rfl) rfl; clear hl; have hl := hl2; clear hl2
  refine then_normal ?_
  refine wp_block ?_
  obtain ⟨KS0, hKS0, hk⟩ := (hl.add (t := 0) (hl.add (t := 1) (hl.add (t := 4) (hl.add (t := 12) (hl.nil) rfl) rfl) rfl) rfl).name
  obtain ⟨HS0, hHS0, hh2⟩ := hh.nameT (A := [(k4, C [.int .u8 0, .int .u8 0, .string ⟨#[]⟩, .slice none 0 0] 48)]) (U := []) (keeps_cons (b := k4) (o' := C [.int .u8 0, .int .u8 0, .string ⟨#[]⟩, .slice none 0 0] 48) (by repeat (first | exact find_head | apply find_tail | apply find_skip)) (by first | rfl) ((by repeat (first | exact keeps_nil | exact keeps_self | exact keeps_left | apply keeps_app | apply keeps_mv | apply keeps_skip))))
  refine c_loop (α := LN9) (fun z => bs.length - z.i) (fun z a w => (z.i ≤ bs.length ∧ LNI z (outerP X.B (bs.map SQ.core) z.i) (z.i * X.xs.length)) ∧ Sl 68 ([(13, .int .i64 (z.i : Int)), (5, .slice z.pp z.ac.2.length z.pc)] ++ KS0) a ∧ Has _ w0 ([(k4, C [.int .u8 z.y.l.k, .int .u8 z.y.l.o, .string z.y.l.p, .slice z.y.p z.y.l.a.length z.y.c] 48)] ++ (HS0 ++ (z.Ep ++ z.y.E))) w) ⟨0, (lt0, []), none, 0, [], lv0⟩ ⟨⟨Nat.zero_le _, rfl, Row.nil _ _, rfl, lv0_ok, Nat.zero_le _⟩, hl.addE (t := 13) (hl.addE (t := 5) (hk) rfl (by first | rfl)) rfl (by first | rfl), hh2⟩ ?_
  clear hk hh2 hl hh a w
  intro z a w hI
  obtain ⟨⟨hzi, hz⟩, hl, hh⟩ := hI
  subst hKS0; subst hHS0
  simp only [List.cons_append, List.nil_append, List.append_nil, List.append_assoc] at hl hh
  refine c_seq ?_
  refine c_region ?_
  refine wl (wl_val hl rfl trivial (r_lss hl rfl rfl) ?_)
  clear hl a; intro a hl
  refine w_nil ?_
  have hl2 := hl.add (t := 0) (hl.add (t := 1) (hl.add (t := 4) (hl.add (t := 5) (hl.add (t := 12) (hl.add (t := 13) (hl.add (t := 14) (hl.nil) rfl) rfl) rfl) rfl) rfl) rfl) rfl; clear hl; have hl := hl2; clear hl2
  refine then_normal ?_
  refine c_seq ?_
  refine c_cond hl rfl ?_ ?_
  · intro hc0
    try simp only [decide_eq_true_eq, decide_eq_false_iff_not, Bool.not_eq_true', Bool.not_eq_false', Bool.not_eq_true, Bool.not_eq_false, Bool.and_eq_true, Bool.or_eq_true, Bool.and_eq_false_iff, Bool.or_eq_false_iff, Bool.not_not, ne_eq, Int.not_lt, Int.not_le, Decidable.not_not, beq_iff_eq, bne_iff_ne] at hc0
    obtain ⟨st, hst⟩ : ∃ s, bs[z.i]? = some s := ⟨_, List.getElem?_eq_getElem (by omega)⟩
    have hS := hF.st hst
    have hok := hF.ok st (List.mem_of_getElem? hst)
    have hcore : (bs.map SQ.core)[z.i]? = some st.core := by rw [List.getElem?_map, hst]; rfl
    have hbd := Nat.mul_le_mul (show z.i ≤ 100000 by omega) h64
    refine wp_skip ?_
    refine then_normal ?_
    refine c_seq ?_
    refine wp_block ?_
    refine c_seq ?_
    refine c_region ?_
    refine wl (wl_val hl rfl trivial (r_move hl rfl) ?_)
    clear hl a; intro a hl
    refine wl (wl_val hl rfl trivial (r_assign hl rfl) ?_)
    clear hl a; intro a hl
    refine w_nil ?_
    have hl2 := hl.add (t := 0) (hl.add (t := 1) (hl.add (t := 4) (hl.add (t := 5) (hl.add (t := 6) (hl.add (t := 12) (hl.add (t := 13) (hl.nil) rfl) rfl) rfl) rfl) rfl) rfl) rfl; clear hl; have hl := hl2; clear hl2
    refine then_normal ?_
    refine c_seq ?_
    refine c_region ?_
    refine wl (wl_val hl rfl trivial (r_move hl rfl) ?_)
    clear hl a; intro a hl
    refine wl (wl_val hl rfl trivial (r_move hl rfl) ?_)
    clear hl a; intro a hl
    refine wl (wl_val hl rfl trivial (r_indexS hl rfl rfl slc132 (by omega) (by omega) (by first | (simp only [Int.reduceToNat]; rfl) | exact toNat_add1 _ | exact toNat_add2 _ _ | exact toNat_emod _ _ | exact Int.toNat_natCast _ | rfl)) ?_)
    clear hl a; intro a hl
    refine wl (wl_val hl rfl trivial (r_assign hl rfl) ?_)
    clear hl a; intro a hl
    refine w_nil ?_
    have hl2 := hl.add (t := 0) (hl.add (t := 1) (hl.add (t := 4) (hl.add (t := 5) (hl.add (t := 6) (hl.add (t := 7) (hl.add (t := 12) (hl.add (t := 13) (hl.nil) rfl) rfl) rfl) rfl) rfl) rfl) rfl) rfl; clear hl; have hl := hl2; clear hl2
    refine then_normal ?_
    refine c_seq ?_
    refine c_region ?_
    refine wl (wl_val hl rfl trivial (r_move hl rfl) ?_)
    clear hl a; intro a hl
    refine wl (wl_val hl rfl trivial (r_nilCheck hl rfl) ?_)
    clear hl a; intro a hl
    refine wl (wl_val hl rfl trivial (r_field hl rfl fld127_1) ?_)
    clear hl a; intro a hl
    first | refine wl (w_load hl hh rfl trivial one55 rfl (by repeat (first | exact find_head | apply find_tail | apply find_skip)) (by first | rfl) ?_) | refine wl (w_loadR hl hh rfl trivial one55 rfl hms (by simp) rfl ?_) | refine wl (w_loadR hl hh rfl trivial one55 rfl hmf (by simp) hS.at_.1 ?_)
    clear hl a; intro a hl
    refine wl (wl_val hl rfl trivial (r_lenS hl rfl slc55) ?_)
    clear hl a; intro a hl
    refine wl (wl_val hl rfl trivial (r_move hl rfl) ?_)
    clear hl a; intro a hl
    refine w_nil ?_
    have hl2 := hl.add (t := 0) (hl.add (t := 1) (hl.add (t := 4) (hl.add (t := 5) (hl.add (t := 6) (hl.add (t := 7) (hl.add (t := 12) (hl.add (t := 13) (hl.add (t := 22) (hl.add (t := 23) (hl.add (t := 24) (hl.nil) rfl) rfl) rfl) rfl) rfl) rfl) rfl) rfl) rfl) rfl) rfl; clear hl; have hl := hl2; clear hl2
    refine then_normal ?_
    refine wp_block ?_
    obtain ⟨KS1, hKS1, hk⟩ := (hl.add (t := 0) (hl.add (t := 1) (hl.add (t := 4) (hl.add (t := 6) (hl.add (t := 7) (hl.add (t := 12) (hl.add (t := 13) (hl.add (t := 22) (hl.add (t := 23) (hl.nil) rfl) rfl) rfl) rfl) rfl) rfl) rfl) rfl) rfl).name
    obtain ⟨HS1, hHS1, hh2⟩ := hh.nameT (A := [(k4, C [.int .u8 z.y.l.k, .int .u8 z.y.l.o, .string z.y.l.p, .slice z.y.p z.y.l.a.length z.y.c] 48)]) (U := (z.Ep ++ z.y.E)) (keeps_cons (b := k4) (o' := C [.int .u8 z.y.l.k, .int .u8 z.y.l.o, .string z.y.l.p, .slice z.y.p z.y.l.a.length z.y.c] 48) (by repeat (first | exact find_head | apply find_tail | apply find_skip)) (by first | rfl) ((by repeat (first | exact keeps_nil | exact keeps_self | exact keeps_left | apply keeps_app | apply keeps_mv | apply keeps_skip))))
    refine c_loop (α := LN9) (fun u => X.xs.length - u.i) (fun u a w => (u.i ≤ X.xs.length ∧ LNI u (innerP X.B z.i st.core u.i (outerP X.B (bs.map SQ.core) z.i)) (z.i * X.xs.length + u.i)) ∧ Sl 68 ([(24, .int .i64 (u.i : Int)), (5, .slice u.pp u.ac.2.length u.pc)] ++ KS1) a ∧ Has _ w0 ([(k4, C [.int .u8 u.y.l.k, .int .u8 u.y.l.o, .string u.y.l.p, .slice u.y.p u.y.l.a.length u.y.c] 48)] ++ (HS1 ++ (u.Ep ++ u.y.E))) w) ⟨0, z.ac, z.pp, z.pc, z.Ep, z.y⟩ ⟨⟨Nat.zero_le _, hz.ac, hz.row, hz.yl, hz.yo, hz.m⟩, hl.addE (t := 24) (hl.addE (t := 5) (hk) rfl (by first | rfl)) rfl (by first | rfl), hh2⟩ ?_
    clear hk hh2 hl hh a w
    intro u a w hI
    obtain ⟨⟨hui, hu⟩, hl, hh⟩ := hI
    subst hKS1; subst hHS1
    simp only [List.cons_append, List.nil_append, List.append_nil, List.append_assoc] at hl hh
    have hum := hu.m
    refine c_seq ?_
    refine c_region ?_
    refine wl (wl_val hl rfl trivial (r_lss hl rfl rfl) ?_)
    clear hl a; intro a hl
    refine w_nil ?_
    have hl2 := hl.add (t := 0) (hl.add (t := 1) (hl.add (t := 4) (hl.add (t := 5) (hl.add (t := 6) (hl.add (t := 7) (hl.add (t := 12) (hl.add (t := 13) (hl.add (t := 22) (hl.add (t := 23) (hl.add (t := 24) (hl.add (t := 25) (hl.nil) rfl) rfl) rfl) rfl) rfl) rfl) rfl) rfl) rfl) rfl) rfl) rfl; clear hl; have hl := hl2; clear hl2
    refine then_normal ?_
    refine c_seq ?_
    refine c_cond hl rfl ?_ ?_
    · intro hc1
      try simp only [decide_eq_true_eq, decide_eq_false_iff_not, Bool.not_eq_true', Bool.not_eq_false', Bool.not_eq_true, Bool.not_eq_false, Bool.and_eq_true, Bool.or_eq_true, Bool.and_eq_false_iff, Bool.or_eq_false_iff, Bool.not_not, ne_eq, Int.not_lt, Int.not_le, Decidable.not_not, beq_iff_eq, bne_iff_ne] at hc1
      obtain ⟨x, hx⟩ : ∃ x, X.xs[u.i]? = some x := ⟨_, List.getElem?_eq_getElem (by omega)⟩
      have hxm := List.mem_of_getElem? hx
      have hxo := hX.ok x hxm
      have hq1 := c4_at hx
      simp only [LV.c4] at hq1
      have hpn := row_p hu.row
      refine wp_skip ?_
      refine then_normal ?_
      refine c_seq ?_
      refine wp_block ?_
      refine c_seq ?_
      refine c_region ?_
      refine wl (wl_val hl rfl trivial (r_move hl rfl) ?_)
      clear hl a; intro a hl
      refine wl (wl_val hl rfl trivial (r_indexS hl rfl rfl slc55 (by omega) (by omega) (by first | (simp only [Int.reduceToNat]; rfl) | exact toNat_add1 _ | exact toNat_add2 _ _ | exact toNat_emod _ _ | exact Int.toNat_natCast _ | rfl)) ?_)
      clear hl a; intro a hl
      first | refine wl (w_loadA hl hh rfl trivial agg48 rfl (by repeat (first | exact find_head | apply find_tail | apply find_skip)) (by first | (simp only [List.getElem?_cons_zero, List.getElem?_cons_succ, Value.cells, List.take_zero, List.take_succ_cons, List.take_nil, List.drop_zero, List.drop_succ_cons, List.drop_nil, List.length_cons, List.length_nil, List.cons_append, List.nil_append, List.append_nil, Nat.zero_add, Nat.add_zero, Nat.reduceAdd, Nat.reduceBEq, Nat.reduceEqDiff, Nat.ble, BEq.rfl, Bool.and_true, Bool.and_self, cond_true, beq_self_eq_true]; rfl)) (by first | rfl | (simp; done)) ?_) | refine wl (w_loadRA hl hh rfl trivial agg48 rfl hmb (by simp) hq1 rfl ?_)
      clear hl a; intro a hl
      refine wl (w_alloc hl hh rfl trivial zero48 rfl ?_)
      clear hl hh a w; intro k9 a w hl hh
      refine wl (wl_val hl rfl trivial (r_assign hl rfl) ?_)
      clear hl a; intro a hl
      refine wl (w_storeA hl hh trivial agg48 rfl rfl (by repeat (first | exact find_head | apply find_tail | apply find_skip)) (by first | rfl | (simp; done)) (by first | (simp; done) | (simp; omega)) (by first | rfl | (simp; done) | rfl) (by first | (simp only [setL, List.getElem?_cons_zero, List.getElem?_cons_succ, Value.cells, List.take_zero, List.take_succ_cons, List.take_nil, List.drop_zero, List.drop_succ_cons, List.drop_nil, List.length_cons, List.length_nil, List.cons_append, List.nil_append, List.append_nil, Nat.zero_add, Nat.add_zero, Nat.reduceAdd, Nat.reduceBEq, Nat.reduceEqDiff, Nat.ble, BEq.rfl, Bool.and_true, Bool.and_self, cond_true, beq_self_eq_true]; rfl)) ?_)
      clear hh w; intro w hh
      refine w_nil ?_
      have hl2 := hl.add (t := 0) (hl.add (t := 1) (hl.add (t := 4) (hl.add (t := 5) (hl.add (t := 6) (hl.add (t := 7) (hl.add (t := 8) (hl.add (t := 9) (hl.add (t := 12) (hl.add (t := 13) (hl.add (t := 22) (hl.add (t := 23) (hl.add (t := 24) (hl.nil) rfl) rfl) rfl) rfl) rfl) rfl) rfl) rfl) rfl) rfl) rfl) rfl) rfl; clear hl; have hl := hl2; clear hl2
      refine then_normal ?_
      refine c_seq ?_
      refine c_seq ?_
      refine c_region ?_
      refine wl (wl_val hl rfl trivial (r_move hl rfl) ?_)
      clear hl a; intro a hl
      refine wl (wl_val hl rfl trivial (r_nilCheck hl rfl) ?_)
      clear hl a; intro a hl
      refine wl (wl_val hl rfl trivial (r_field hl rfl fld129_0) ?_)
      clear hl a; intro a hl
      first | refine wl (w_load hl hh rfl trivial one49 rfl (by repeat (first | exact find_head | apply find_tail | apply find_skip)) (by first | rfl) ?_) | refine wl (w_loadR hl hh rfl trivial one49 rfl hms (by simp) rfl ?_) | refine wl (w_loadR hl hh rfl trivial one49 rfl hmf (by simp) hS.at_.1 ?_)
      clear hl a; intro a hl
      refine wl (wl_val hl rfl trivial (r_move hl rfl) ?_)
      clear hl a; intro a hl
      first | refine wl (wl_val hl rfl trivial (r_conv hl rfl Tryz.underlying3 Tryz.underlying106 (by simp only [Fits]; omega)) ?_) | refine wl (wl_val hl rfl trivial (r_convW hl rfl Tryz.underlying3 Tryz.underlying106) ?_)
      clear hl a; intro a hl
      refine wl (wl_val hl rfl trivial (r_shl hl rfl rfl (by omega)) ?_)
      clear hl a; intro a hl
      rw [sh64_eq] at hl
      refine wl (wl_val hl rfl trivial (r_and hl rfl rfl) ?_)
      clear hl a; intro a hl
      refine wl (wl_val hl rfl trivial (r_neq hl rfl rfl) ?_)
      clear hl a; intro a hl
      refine w_nil ?_
      have hl2 := hl.add (t := 0) (hl.add (t := 1) (hl.add (t := 4) (hl.add (t := 5) (hl.add (t := 6) (hl.add (t := 7) (hl.add (t := 8) (hl.add (t := 9) (hl.add (t := 12) (hl.add (t := 13) (hl.add (t := 22) (hl.add (t := 23) (hl.add (t := 24) (hl.add (t := 37) (hl.nil) rfl) rfl) rfl) rfl) rfl) rfl) rfl) rfl) rfl) rfl) rfl) rfl) rfl) rfl; clear hl; have hl := hl2; clear hl2
      refine then_normal ?_
      refine c_cond hl rfl ?_ ?_
      · intro hc2
        try simp only [decide_eq_true_eq, decide_eq_false_iff_not, Bool.not_eq_true', Bool.not_eq_false', Bool.not_eq_true, Bool.not_eq_false, Bool.and_eq_true, Bool.or_eq_true, Bool.and_eq_false_iff, Bool.or_eq_false_iff, Bool.not_not, ne_eq, Int.not_lt, Int.not_le, Decidable.not_not, beq_iff_eq, bne_iff_ne] at hc2
        have hpl2 : ¬ bitsOf .and .u64 st.core.1 (sh64 u.i) = 0 := hc2
        refine wp_exit ?_
        refine then_exit ?_
        refine blk_exit ?_
        refine then_normal ?_
        refine c_region ?_
        first | refine wl (wl_val hl rfl trivial (r_add hl rfl rfl (by simp only [Fits]; omega)) ?_) | refine wl (wl_val hl rfl trivial (r_addW hl rfl rfl) ?_)
        clear hl a; intro a hl
        refine wl (wl_val hl rfl trivial (r_move hl rfl) ?_)
        clear hl a; intro a hl
        refine w_nil ?_
        have hl2 := hl.add (t := 0) (hl.add (t := 1) (hl.add (t := 4) (hl.add (t := 5) (hl.add (t := 6) (hl.add (t := 7) (hl.add (t := 12) (hl.add (t := 13) (hl.add (t := 22) (hl.add (t := 23) (hl.add (t := 24) (hl.nil) rfl) rfl) rfl) rfl) rfl) rfl) rfl) rfl) rfl) rfl) rfl; clear hl; have hl := hl2; clear hl2
        refine then_normal ?_
        refine ⟨⟨u.i + 1, u.ac, u.pp, u.pc, u.Ep, u.y⟩, (by simp only; omega), ⟨by simp only; omega, by rw [inner_succ (X.at_ hx), ← hu.ac, ls_placed hpl2], hu.row, hu.yl, hu.yo, by simp only; omega⟩, hl.addE (t := 24) (hl.addE (t := 5) (hl.addE (t := 0) (hl.addE (t := 1) (hl.addE (t := 4) (hl.addE (t := 6) (hl.addE (t := 7) (hl.addE (t := 12) (hl.addE (t := 13) (hl.addE (t := 22) (hl.addE (t := 23) (hl.nil) rfl (by first | rfl | exact congrArg (Value.int .i64) (show (u.i : Int) + 1 = ((u.i + 1 : Nat) : Int) by omega) | (simp [List.length_append]; done))) rfl (by first | rfl | exact congrArg (Value.int .i64) (show (u.i : Int) + 1 = ((u.i + 1 : Nat) : Int) by omega) | (simp [List.length_append]; done))) rfl (by first | rfl | exact congrArg (Value.int .i64) (show (u.i : Int) + 1 = ((u.i + 1 : Nat) : Int) by omega) | (simp [List.length_append]; done))) rfl (by first | rfl | exact congrArg (Value.int .i64) (show (u.i : Int) + 1 = ((u.i + 1 : Nat) : Int) by omega) | (simp [List.length_append]; done))) rfl (by first | rfl | exact congrArg (Value.int .i64) (show (u.i : Int) + 1 = ((u.i + 1 : Nat) : Int) by omega) | (simp [List.length_append]; done))) rfl (by first | rfl | exact congrArg (Value.int .i64) (show (u.i : Int) + 1 = ((u.i + 1 : Nat) : Int) by omega) | (simp [List.length_append]; done))) rfl (by first | rfl | exact congrArg (Value.int .i64) (show (u.i : Int) + 1 = ((u.i + 1 : Nat) : Int) by omega) | (simp [List.length_append]; done))) rfl (by first | rfl | exact congrArg (Value.int .i64) (show (u.i : Int) + 1 = ((u.i + 1 : Nat) : Int) by omega) | (simp [List.length_append]; done))) rfl (by first | rfl | exact congrArg (Value.int .i64) (show (u.i : Int) + 1 = ((u.i + 1 : Nat) : Int) by omega) | (simp [List.length_append]; done))) rfl (by first | rfl | exact congrArg (Value.int .i64) (show (u.i : Int) + 1 = ((u.i + 1 : Nat) : Int) by omega) | (simp [List.length_append]; done))) rfl (by first | rfl | exact congrArg (Value.int .i64) (show (u.i : Int) + 1 = ((u.i + 1 : Nat) : Int) by omega) | (simp [List.length_append]; done)), hh.keep (by repeat (first | exact keeps_nil | apply keeps_cons (by repeat (first | exact find_head | apply find_tail | apply find_skip)) (by first  | rfl) | exact keeps_self | exact keeps_left | apply keeps_app | apply keeps_mv | apply keeps_skip))⟩
      · intro hc2
        try simp only [decide_eq_true_eq, decide_eq_false_iff_not, Bool.not_eq_true', Bool.not_eq_false', Bool.not_eq_true, Bool.not_eq_false, Bool.and_eq_true, Bool.or_eq_true, Bool.and_eq_false_iff, Bool.or_eq_false_iff, Bool.not_not, ne_eq, Int.not_lt, Int.not_le, Decidable.not_not, beq_iff_eq, bne_iff_ne] at hc2
        have hpl2 : bitsOf .and .u64 st.core.1 (sh64 u.i) = 0 := hc2
        refine wp_skip ?_
        refine then_normal ?_
        refine c_seq ?_
        refine c_region ?_
        refine wl (wl_val hl rfl trivial (r_field hl rfl fld48_2) ?_)
        clear hl a; intro a hl
        refine wl (wl_val hl rfl trivial (r_field hl rfl fld46_1) ?_)
        clear hl a; intro a hl
        first | refine wl (w_load hl hh rfl trivial one42 rfl (by repeat (first | exact find_head | apply find_tail | apply find_skip)) (by first | rfl) ?_) | refine wl (w_loadR hl hh rfl trivial one42 rfl hms (by simp) rfl ?_) | refine wl (w_loadR hl hh rfl trivial one42 rfl hmf (by simp) hS.at_.1 ?_)
        clear hl a; intro a hl
        refine wl (wl_val hl rfl trivial (r_move hl rfl) ?_)
        clear hl a; intro a hl
        refine wl (w_call hl hh rfl trivial rfl cal57 rfl (read_ro X Z hX st fb (0 + z.i * 3) (fl SQ.cells bs ++ jf) hS hok x hxm) (by repeat (first | exact keeps_nil | apply keeps_cons (by repeat (first | exact find_head | apply find_tail | apply find_skip)) (by first  | rfl) | exact keeps_self | exact keeps_left | apply keeps_app | apply keeps_mv | apply keeps_skip)) (mem_keep hh hpre) ?_)
        clear hl hh a w; intro vc Fc a w hR hl hh
        try simp only [List.cons_append, List.nil_append, List.append_assoc, List.append_nil] at hh
        have hRo := hR
        clear hR
        generalize Fc = Fo at hh hRo
        obtain ⟨rp, rc, hrv⟩ := row_val hRo
        subst hrv
        have hyo : LV.ok (⟨rdL (st.num, st.nx) x.l, rp, rc, Fo⟩ : LV) := rdl_ok hok hxo hRo
        rw [show x.l.a.length = (rdL (st.num, st.nx) x.l).a.length from (rdTs_len _ _).symm] at hl
        refine wl (wl_val hl rfl trivial (r_field hl rfl fld48_2) ?_)
        clear hl a; intro a hl
        refine wl (wl_val hl rfl trivial (r_field hl rfl fld46_1) ?_)
        clear hl a; intro a hl
        refine wl (w_store hl hh trivial one42 rfl rfl (by repeat (first | exact find_head | apply find_tail | apply find_skip)) (by first | (simp; done) | (simp; omega)) (by first | rfl | assumption | (apply Row.one; assumption)) (by first | (simp only [setL, List.getElem?_cons_zero, List.getElem?_cons_succ, Value.cells, List.take_zero, List.take_succ_cons, List.take_nil, List.drop_zero, List.drop_succ_cons, List.drop_nil, List.length_cons, List.length_nil, List.cons_append, List.nil_append, List.append_nil, Nat.zero_add, Nat.add_zero, Nat.reduceAdd, Nat.reduceBEq, Nat.reduceEqDiff, Nat.ble, BEq.rfl, Bool.and_true, Bool.and_self, cond_true, beq_self_eq_true]; rfl)) ?_)
        clear hh w; intro w hh
        refine w_nil ?_
        have hl2 := hl.add (t := 0) (hl.add (t := 1) (hl.add (t := 4) (hl.add (t := 5) (hl.add (t := 6) (hl.add (t := 7) (hl.add (t := 8) (hl.add (t := 9) (hl.add (t := 12) (hl.add (t := 13) (hl.add (t := 22) (hl.add (t := 23) (hl.add (t := 24) (hl.nil) rfl) rfl) rfl) rfl) rfl) rfl) rfl) rfl) rfl) rfl) rfl) rfl) rfl; clear hl; have hl := hl2; clear hl2
        refine then_normal ?_
        refine c_seq ?_
        refine c_region ?_
        refine wl (wl_val hl rfl trivial (r_assign hl rfl) ?_)
        clear hl a; intro a hl
        refine w_nil ?_
        have hl2 := hl.add (t := 0) (hl.add (t := 1) (hl.add (t := 4) (hl.add (t := 5) (hl.add (t := 6) (hl.add (t := 7) (hl.add (t := 8) (hl.add (t := 9) (hl.add (t := 10) (hl.add (t := 12) (hl.add (t := 13) (hl.add (t := 22) (hl.add (t := 23) (hl.add (t := 24) (hl.nil) rfl) rfl) rfl) rfl) rfl) rfl) rfl) rfl) rfl) rfl) rfl) rfl) rfl) rfl; clear hl; have hl := hl2; clear hl2
        refine then_normal ?_
        refine c_seq ?_
        refine c_seq ?_
        refine c_region ?_
        refine wl (wl_val hl rfl trivial (r_move hl rfl) ?_)
        clear hl a; intro a hl
        refine wl (wl_val hl rfl trivial (r_lenS hl rfl slc133) ?_)
        clear hl a; intro a hl
        refine wl (wl_val hl rfl trivial (r_gtr hl rfl rfl) ?_)
        clear hl a; intro a hl
        refine w_nil ?_
        have hl2 := hl.add (t := 0) (hl.add (t := 1) (hl.add (t := 4) (hl.add (t := 5) (hl.add (t := 6) (hl.add (t := 7) (hl.add (t := 8) (hl.add (t := 9) (hl.add (t := 10) (hl.add (t := 12) (hl.add (t := 13) (hl.add (t := 22) (hl.add (t := 23) (hl.add (t := 24) (hl.add (t := 47) (hl.nil) rfl) rfl) rfl) rfl) rfl) rfl) rfl) rfl) rfl) rfl) rfl) rfl) rfl) rfl) rfl; clear hl; have hl := hl2; clear hl2
        refine then_normal ?_
        refine c_cond hl rfl ?_ ?_
        · intro hc3
          try simp only [decide_eq_true_eq, decide_eq_false_iff_not, Bool.not_eq_true', Bool.not_eq_false', Bool.not_eq_true, Bool.not_eq_false, Bool.and_eq_true, Bool.or_eq_true, Bool.and_eq_false_iff, Bool.or_eq_false_iff, Bool.not_not, ne_eq, Int.not_lt, Int.not_le, Decidable.not_not, beq_iff_eq, bne_iff_ne] at hc3
          have hne0 : u.ac.2 ≠ [] := fun e => by rw [e] at hc3; simp at hc3
          refine c_region ?_
          first | refine wl (w_loadA hl hh rfl trivial agg48 rfl (by repeat (first | exact find_head | apply find_tail | apply find_skip)) (by first | (simp only [List.getElem?_cons_zero, List.getElem?_cons_succ, Value.cells, List.take_zero, List.take_succ_cons, List.take_nil, List.drop_zero, List.drop_succ_cons, List.drop_nil, List.length_cons, List.length_nil, List.cons_append, List.nil_append, List.append_nil, Nat.zero_add, Nat.add_zero, Nat.reduceAdd, Nat.reduceBEq, Nat.reduceEqDiff, Nat.ble, BEq.rfl, Bool.and_true, Bool.and_self, cond_true, beq_self_eq_true]; rfl)) (by first | rfl | (simp; done)) ?_) | refine wl (w_loadRA hl hh rfl trivial agg48 rfl hmb (by simp) hq1 rfl ?_)
          clear hl a; intro a hl
          first | refine wl (w_loadA hl hh rfl trivial agg48 rfl (by repeat (first | exact find_head | apply find_tail | apply find_skip)) (by first | (simp only [List.getElem?_cons_zero, List.getElem?_cons_succ, Value.cells, List.take_zero, List.take_succ_cons, List.take_nil, List.drop_zero, List.drop_succ_cons, List.drop_nil, List.length_cons, List.length_nil, List.cons_append, List.nil_append, List.append_nil, Nat.zero_add, Nat.add_zero, Nat.reduceAdd, Nat.reduceBEq, Nat.reduceEqDiff, Nat.ble, BEq.rfl, Bool.and_true, Bool.and_self, cond_true, beq_self_eq_true]; rfl)) (by first | rfl | (simp; done)) ?_) | refine wl (w_loadRA hl hh rfl trivial agg48 rfl hmb (by simp) hq1 rfl ?_)
          clear hl a; intro a hl
          refine wl (w_call hl hh rfl trivial rfl cal61 rfl (cmpL_spec (⟨rdL (st.num, st.nx) x.l, rp, rc, Fo⟩ : LV) u.y hyo hu.yo) (by repeat (first | exact keeps_nil | apply keeps_cons (by repeat (first | exact find_head | apply find_tail | apply find_skip)) (by first  | rfl) | exact keeps_self | exact keeps_left | apply keeps_app | apply keeps_mv | apply keeps_skip)) ⟨memK hh (by repeat (first | exact keeps_nil | apply keeps_cons (by repeat (first | exact find_head | apply find_tail | apply find_skip)) (by first  | rfl) | exact keeps_self | exact keeps_left | apply keeps_app | apply keeps_mv | apply keeps_skip)), memK hh (by repeat (first | exact keeps_nil | apply keeps_cons (by repeat (first | exact find_head | apply find_tail | apply find_skip)) (by first  | rfl) | exact keeps_self | exact keeps_left | apply keeps_app | apply keeps_mv | apply keeps_skip))⟩ ?_)
          clear hl hh a w; intro vc Fc a w hR hl hh
          obtain ⟨rfl, rfl⟩ := hR
          try simp only [List.cons_append, List.nil_append, List.append_assoc, List.append_nil] at hh
          refine wl (wl_val hl rfl trivial (r_assign hl rfl) ?_)
          clear hl a; intro a hl
          refine w_nil ?_
          have hl2 := hl.add (t := 0) (hl.add (t := 1) (hl.add (t := 4) (hl.add (t := 5) (hl.add (t := 6) (hl.add (t := 7) (hl.add (t := 8) (hl.add (t := 9) (hl.add (t := 10) (hl.add (t := 12) (hl.add (t := 13) (hl.add (t := 22) (hl.add (t := 23) (hl.add (t := 24) (hl.nil) rfl) rfl) rfl) rfl) rfl) rfl) rfl) rfl) rfl) rfl) rfl) rfl) rfl) rfl; clear hl; have hl := hl2; clear hl2
          obtain ⟨c9, hc9⟩ : ∃ c : Int, cmpL (rdL (st.num, st.nx) x.l) u.y.l = c := ⟨_, rfl⟩
          rw [hc9] at hl
          have hcn : u.ac.2 = [] → c9 = -1 := fun h9 => absurd h9 hne0
          have hcm : u.ac.2 ≠ [] → c9 = cmpL (rdL st.core.2 x.l) u.ac.1 := fun _ => by rw [← hc9, hu.yl]; rfl
          refine then_normal ?_
          refine c_seq ?_
          refine c_seq ?_
          rcases (show c9 < 0 ∨ c9 = 0 ∨ 0 < c9 by omega) with hcc | hcc | hcc
          ·
            have hnew : u.ac.2 = [] ∨ cmpL (rdL st.core.2 x.l) u.ac.1 < 0 := Classical.byCases (fun h9 : u.ac.2 = [] => .inl h9) (fun h9 => .inr (by rw [← hcm h9]; exact hcc))
            refine c_region ?_
            refine wl (wl_val hl rfl trivial (r_move hl rfl) ?_)
            clear hl a; intro a hl
            refine wl (wl_val hl rfl trivial (r_lss hl rfl rfl) ?_)
            clear hl a; intro a hl
            rw [show decide (c9 < 0) = true from decide_eq_true (by omega)] at hl
            refine w_nil ?_
            have hl2 := hl.add (t := 0) (hl.add (t := 1) (hl.add (t := 4) (hl.add (t := 5) (hl.add (t := 6) (hl.add (t := 7) (hl.add (t := 8) (hl.add (t := 9) (hl.add (t := 10) (hl.add (t := 12) (hl.add (t := 13) (hl.add (t := 22) (hl.add (t := 23) (hl.add (t := 24) (hl.add (t := 52) (hl.nil) rfl) rfl) rfl) rfl) rfl) rfl) rfl) rfl) rfl) rfl) rfl) rfl) rfl) rfl) rfl; clear hl; have hl := hl2; clear hl2
            refine then_normal ?_
            refine c_condT hl rfl ?_
            refine c_draw [(k9, C [.int .u8 x.l.k, .int .u8 x.l.o, .string x.l.p, .slice rp (rdL (st.num, st.nx) x.l).a.length rc] 48)] [4] mixed hh ?_
            clear hh w; intro w hh
            have hM : Mem [(k9, C [.int .u8 x.l.k, .int .u8 x.l.o, .string x.l.p, .slice rp (rdL (st.num, st.nx) x.l).a.length rc] 48)] w := (by (repeat (first | exact Mem.nil | refine Mem.consR hh (by assumption) (by simp) ?_ | refine Mem.cons hh.mem (by (repeat (first | exact find_head | apply find_tail | apply find_skip)); done) ?_ | fail)); done)
            refine d_take (i := 0) hl rfl (by kernel_rfl) (by kernel_rfl) (by kernel_rfl) (by kernel_rfl) (by kernel_rfl) rfl trivial (fun _ _ _ h => h) hM (fun w hC => r_loadCA hl rfl agg48 hC (by repeat (first | exact find_head | apply find_tail | apply find_skip)) (by first | (simp only [List.getElem?_cons_zero, List.getElem?_cons_succ, Value.cells, List.take_zero, List.take_succ_cons, List.take_nil, List.drop_zero, List.drop_succ_cons, List.drop_nil, List.length_cons, List.length_nil, List.cons_append, List.nil_append, List.append_nil, Nat.zero_add, Nat.add_zero, Nat.reduceAdd, Nat.reduceBEq, Nat.reduceEqDiff, Nat.ble, BEq.rfl, Bool.and_true, Bool.and_self, cond_true, beq_self_eq_true]; rfl)) (by first | rfl | (simp; done))) rfl ?_
            clear hl a; intro a hl
            refine d_take (i := 1) hl rfl (by kernel_rfl) (by kernel_rfl) (by kernel_rfl) (by kernel_rfl) (by kernel_rfl) rfl trivial (fun _ _ _ h => h) hM (fun w hC => r_move hl rfl) rfl ?_
            clear hl a; intro a hl
            refine d_take (i := 2) hl rfl (by kernel_rfl) (by kernel_rfl) (by kernel_rfl) (by kernel_rfl) (by kernel_rfl) rfl trivial (fun _ _ _ h => h) hM (fun w hC => r_sliceS01 (by intro q e; first | (cases e; rfl) | (cases e; done) | exact hpn q e) hl rfl rfl slc133 (by omega) (by first | (simp only [Int.reduceToNat]; rfl) | exact toNat_add1 _ | exact toNat_add2 _ _ | exact toNat_emod _ _ | exact Int.toNat_natCast _ | rfl)) rfl ?_
            clear hl a; intro a hl
            refine d_one (i := 3) (by kernel_rfl) rfl ?_
            try clear hM
            refine id (w_storeA hl hh trivial agg48 rfl rfl (by repeat (first | exact find_head | apply find_tail | apply find_skip)) (by first | rfl | (simp; done)) (by first | (simp; done) | (simp; omega)) (by first | rfl | (simp; done) | rfl) (by first | (simp only [setL, List.getElem?_cons_zero, List.getElem?_cons_succ, Value.cells, List.take_zero, List.take_succ_cons, List.take_nil, List.drop_zero, List.drop_succ_cons, List.drop_nil, List.length_cons, List.length_nil, List.cons_append, List.nil_append, List.append_nil, Nat.zero_add, Nat.add_zero, Nat.reduceAdd, Nat.reduceBEq, Nat.reduceEqDiff, Nat.ble, BEq.rfl, Bool.and_true, Bool.and_self, cond_true, beq_self_eq_true]; rfl)) ?_)
            clear hh w; intro w hh
            have hM : Mem [(k9, C [.int .u8 x.l.k, .int .u8 x.l.o, .string x.l.p, .slice rp (rdL (st.num, st.nx) x.l).a.length rc] 48)] w := (by (repeat (first | exact Mem.nil | refine Mem.consR hh (by assumption) (by simp) ?_ | refine Mem.cons hh.mem (by (repeat (first | exact find_head | apply find_tail | apply find_skip)); done) ?_ | fail)); done)
            refine d_step (fun _ => hM) ?_
            refine d_takeL (i := 4) hl rfl (by kernel_rfl) (by kernel_rfl) (by kernel_rfl) (by kernel_rfl) (by kernel_rfl) rfl trivial (fun _ _ _ h => h) (fun w => r_assign hl rfl) rfl ?_
            clear hl a; intro a hl
            refine d_done (by kernel_rfl) ?_
            try clear hM
            have hl2 := hl.add (t := 0) (hl.add (t := 1) (hl.add (t := 4) (hl.add (t := 5) (hl.add (t := 6) (hl.add (t := 7) (hl.add (t := 8) (hl.add (t := 10) (hl.add (t := 12) (hl.add (t := 13) (hl.add (t := 22) (hl.add (t := 23) (hl.add (t := 24) (hl.nil) rfl) rfl) rfl) rfl) rfl) rfl) rfl) rfl) rfl) rfl) rfl) rfl) rfl; clear hl; have hl := hl2; clear hl2
            have hrowN := row_cut0 hu.row
            refine then_normal ?_
            refine c_seq ?_
            refine c_region ?_
            refine wl (wl_val hl rfl trivial (r_move hl rfl) ?_)
            clear hl a; intro a hl
            refine wl (wl_val hl rfl trivial (r_leq hl rfl rfl) ?_)
            clear hl a; intro a hl
            rw [show decide (c9 ≤ 0) = true from decide_eq_true (by omega)] at hl
            refine w_nil ?_
            have hl2 := hl.add (t := 0) (hl.add (t := 1) (hl.add (t := 4) (hl.add (t := 5) (hl.add (t := 6) (hl.add (t := 7) (hl.add (t := 8) (hl.add (t := 12) (hl.add (t := 13) (hl.add (t := 22) (hl.add (t := 23) (hl.add (t := 24) (hl.add (t := 57) (hl.nil) rfl) rfl) rfl) rfl) rfl) rfl) rfl) rfl) rfl) rfl) rfl) rfl) rfl; clear hl; have hl := hl2; clear hl2
            refine then_normal ?_
            refine c_condT hl rfl ?_
            refine c_region ?_
            refine wl (wl_val hl rfl trivial (r_move hl rfl) ?_)
            clear hl a; intro a hl
            refine wl (wl_val hl rfl trivial (r_move hl rfl) ?_)
            clear hl a; intro a hl
            refine wl (wl_val hl rfl trivial (r_move hl rfl) ?_)
            clear hl a; intro a hl
            refine wl (wl_val hl rfl trivial (r_build hl rfl zero181 bld181 (by simp only [fillL, setL, List.getElem?_cons_zero, List.getElem?_cons_succ, Value.cells, List.take_zero, List.take_succ_cons, List.take_nil, List.drop_zero, List.drop_succ_cons, List.drop_nil, List.length_cons, List.length_nil, List.cons_append, List.nil_append, List.append_nil, Nat.zero_add, Nat.add_zero, Nat.reduceAdd, Nat.reduceBEq, Nat.reduceEqDiff, Nat.ble, BEq.rfl, Bool.and_true, Bool.and_self, cond_true, beq_self_eq_true]; rfl)) ?_)
            clear hl a; intro a hl
            refine wl (w_buildSlice hl hh rfl trivial app133 zero181 rfl rfl rfl rfl rfl (by simp only [fillL, arrPl, List.range_succ, List.range_zero, List.map_cons, List.map_nil, List.map_append, List.nil_append, List.replicate_succ, List.replicate_zero, List.flatten_cons, List.flatten_nil, Nat.zero_mul, Nat.mul_one, Nat.one_mul, Nat.reduceMul, setL, List.getElem?_cons_zero, List.getElem?_cons_succ, Value.cells, List.take_zero, List.take_succ_cons, List.take_nil, List.drop_zero, List.drop_succ_cons, List.drop_nil, List.length_cons, List.length_nil, List.cons_append, List.nil_append, List.append_nil, Nat.zero_add, Nat.add_zero, Nat.reduceAdd, Nat.reduceBEq, Nat.reduceEqDiff, Nat.ble, BEq.rfl, Bool.and_true, Bool.and_self, cond_true, beq_self_eq_true]; rfl) ?_)
            clear hl hh a w; intro k62 a w hl hh
            refine wl (w_append (news := [.int .i64 (z.i : Int), .int .i64 (u.i : Int)]) hl hh rfl trivial app133 rfl rfl rfl hrowN (by repeat (first | exact keeps_nil | apply keeps_cons (by repeat (first | exact find_head | apply find_tail | apply find_skip)) (by first  | rfl) | exact keeps_self | exact keeps_left | apply keeps_app | apply keeps_mv | apply keeps_skip)) (hh.mem _ _ (Find.mem (by repeat (first | exact find_head | apply find_tail | apply find_skip)))) rfl rfl rfl (by omega) (by omega) (by omega) (by decide) ?_)
            clear hl hh a w; intro rv2 E2 a w hR2 hl hh
            have hh3 := hh.comm; clear hh; have hh := hh3; clear hh3
            try simp only [List.cons_append, List.nil_append, List.append_assoc, List.append_nil] at hh
            refine wl (wl_val hl rfl trivial (r_assign hl rfl) ?_)
            clear hl a; intro a hl
            refine w_nil ?_
            have hl2 := hl.add (t := 0) (hl.add (t := 1) (hl.add (t := 4) (hl.add (t := 5) (hl.add (t := 6) (hl.add (t := 7) (hl.add (t := 12) (hl.add (t := 13) (hl.add (t := 22) (hl.add (t := 23) (hl.add (t := 24) (hl.nil) rfl) rfl) rfl) rfl) rfl) rfl) rfl) rfl) rfl) rfl) rfl; clear hl; have hl := hl2; clear hl2
            obtain ⟨p9, c9x, hv9⟩ := row_val hR2
            subst hv9
            refine blk_normal ?_
            refine then_normal ?_
            refine c_region ?_
            first | refine wl (wl_val hl rfl trivial (r_add hl rfl rfl (by simp only [Fits]; omega)) ?_) | refine wl (wl_val hl rfl trivial (r_addW hl rfl rfl) ?_)
            clear hl a; intro a hl
            refine wl (wl_val hl rfl trivial (r_move hl rfl) ?_)
            clear hl a; intro a hl
            refine w_nil ?_
            have hl2 := hl.add (t := 0) (hl.add (t := 1) (hl.add (t := 4) (hl.add (t := 5) (hl.add (t := 6) (hl.add (t := 7) (hl.add (t := 12) (hl.add (t := 13) (hl.add (t := 22) (hl.add (t := 23) (hl.add (t := 24) (hl.nil) rfl) rfl) rfl) rfl) rfl) rfl) rfl) rfl) rfl) rfl) rfl; clear hl; have hl := hl2; clear hl2
            refine then_normal ?_
            refine ⟨⟨u.i + 1, (rdL (st.num, st.nx) x.l, [(z.i, u.i)]), p9, c9x, E2, (⟨rdL (st.num, st.nx) x.l, rp, rc, Fo⟩ : LV)⟩, (by simp only; omega), ⟨by simp only; omega, by rw [inner_succ (X.at_ hx), ← hu.ac, ls_new hpl2 hnew]; rfl, hR2, rfl, hyo, by show 1 ≤ z.i * X.xs.length + (u.i + 1); omega⟩, hl.addE (t := 24) (hl.addE (t := 5) (hl.addE (t := 0) (hl.addE (t := 1) (hl.addE (t := 4) (hl.addE (t := 6) (hl.addE (t := 7) (hl.addE (t := 12) (hl.addE (t := 13) (hl.addE (t := 22) (hl.addE (t := 23) (hl.nil) rfl (by first | rfl | exact congrArg (Value.int .i64) (show (u.i : Int) + 1 = ((u.i + 1 : Nat) : Int) by omega) | (simp [List.length_append]; done))) rfl (by first | rfl | exact congrArg (Value.int .i64) (show (u.i : Int) + 1 = ((u.i + 1 : Nat) : Int) by omega) | (simp [List.length_append]; done))) rfl (by first | rfl | exact congrArg (Value.int .i64) (show (u.i : Int) + 1 = ((u.i + 1 : Nat) : Int) by omega) | (simp [List.length_append]; done))) rfl (by first | rfl | exact congrArg (Value.int .i64) (show (u.i : Int) + 1 = ((u.i + 1 : Nat) : Int) by omega) | (simp [List.length_append]; done))) rfl (by first | rfl | exact congrArg (Value.int .i64) (show (u.i : Int) + 1 = ((u.i + 1 : Nat) : Int) by omega) | (simp [List.length_append]; done))) rfl (by first | rfl | exact congrArg (Value.int .i64) (show (u.i : Int) + 1 = ((u.i + 1 : Nat) : Int) by omega) | (simp [List.length_append]; done))) rfl (by first | rfl | exact congrArg (Value.int .i64) (show (u.i : Int) + 1 = ((u.i + 1 : Nat) : Int) by omega) | (simp [List.length_append]; done))) rfl (by first | rfl | exact congrArg (Value.int .i64) (show (u.i : Int) + 1 = ((u.i + 1 : Nat) : Int) by omega) | (simp [List.length_append]; done))) rfl (by first | rfl | exact congrArg (Value.int .i64) (show (u.i : Int) + 1 = ((u.i + 1 : Nat) : Int) by omega) | (simp [List.length_append]; done))) rfl (by first | rfl | exact congrArg (Value.int .i64) (show (u.i : Int) + 1 = ((u.i + 1 : Nat) : Int) by omega) | (simp [List.length_append]; done))) rfl (by first | rfl | exact congrArg (Value.int .i64) (show (u.i : Int) + 1 = ((u.i + 1 : Nat) : Int) by omega) | (simp [List.length_append]; done)), hh.keep (by repeat (first | exact keeps_nil | apply keeps_cons (by repeat (first | exact find_head | apply find_tail | apply find_skip)) (by first  | rfl) | exact keeps_self | exact keeps_left | apply keeps_app | apply keeps_mv | apply keeps_skip))⟩
          ·
            have hne0 : u.ac.2 ≠ [] := fun e => by have := hcn e; omega
            have hrowN := hu.row
            refine c_region ?_
            refine wl (wl_val hl rfl trivial (r_move hl rfl) ?_)
            clear hl a; intro a hl
            refine wl (wl_val hl rfl trivial (r_lss hl rfl rfl) ?_)
            clear hl a; intro a hl
            rw [show decide (c9 < 0) = false from decide_eq_false (by omega)] at hl
            refine w_nil ?_
            have hl2 := hl.add (t := 0) (hl.add (t := 1) (hl.add (t := 4) (hl.add (t := 5) (hl.add (t := 6) (hl.add (t := 7) (hl.add (t := 8) (hl.add (t := 9) (hl.add (t := 10) (hl.add (t := 12) (hl.add (t := 13) (hl.add (t := 22) (hl.add (t := 23) (hl.add (t := 24) (hl.add (t := 52) (hl.nil) rfl) rfl) rfl) rfl) rfl) rfl) rfl) rfl) rfl) rfl) rfl) rfl) rfl) rfl) rfl; clear hl; have hl := hl2; clear hl2
            refine then_normal ?_
            refine c_condF hl rfl ?_
            refine wp_skip ?_
            refine then_normal ?_
            refine c_seq ?_
            refine c_region ?_
            refine wl (wl_val hl rfl trivial (r_move hl rfl) ?_)
            clear hl a; intro a hl
            refine wl (wl_val hl rfl trivial (r_leq hl rfl rfl) ?_)
            clear hl a; intro a hl
            rw [show decide (c9 ≤ 0) = true from decide_eq_true (by omega)] at hl
            refine w_nil ?_
            have hl2 := hl.add (t := 0) (hl.add (t := 1) (hl.add (t := 4) (hl.add (t := 5) (hl.add (t := 6) (hl.add (t := 7) (hl.add (t := 8) (hl.add (t := 12) (hl.add (t := 13) (hl.add (t := 22) (hl.add (t := 23) (hl.add (t := 24) (hl.add (t := 57) (hl.nil) rfl) rfl) rfl) rfl) rfl) rfl) rfl) rfl) rfl) rfl) rfl) rfl) rfl; clear hl; have hl := hl2; clear hl2
            refine then_normal ?_
            refine c_condT hl rfl ?_
            refine c_region ?_
            refine wl (wl_val hl rfl trivial (r_move hl rfl) ?_)
            clear hl a; intro a hl
            refine wl (wl_val hl rfl trivial (r_move hl rfl) ?_)
            clear hl a; intro a hl
            refine wl (wl_val hl rfl trivial (r_move hl rfl) ?_)
            clear hl a; intro a hl
            refine wl (wl_val hl rfl trivial (r_build hl rfl zero181 bld181 (by simp only [fillL, setL, List.getElem?_cons_zero, List.getElem?_cons_succ, Value.cells, List.take_zero, List.take_succ_cons, List.take_nil, List.drop_zero, List.drop_succ_cons, List.drop_nil, List.length_cons, List.length_nil, List.cons_append, List.nil_append, List.append_nil, Nat.zero_add, Nat.add_zero, Nat.reduceAdd, Nat.reduceBEq, Nat.reduceEqDiff, Nat.ble, BEq.rfl, Bool.and_true, Bool.and_self, cond_true, beq_self_eq_true]; rfl)) ?_)
            clear hl a; intro a hl
            refine wl (w_buildSlice hl hh rfl trivial app133 zero181 rfl rfl rfl rfl rfl (by simp only [fillL, arrPl, List.range_succ, List.range_zero, List.map_cons, List.map_nil, List.map_append, List.nil_append, List.replicate_succ, List.replicate_zero, List.flatten_cons, List.flatten_nil, Nat.zero_mul, Nat.mul_one, Nat.one_mul, Nat.reduceMul, setL, List.getElem?_cons_zero, List.getElem?_cons_succ, Value.cells, List.take_zero, List.take_succ_cons, List.take_nil, List.drop_zero, List.drop_succ_cons, List.drop_nil, List.length_cons, List.length_nil, List.cons_append, List.nil_append, List.append_nil, Nat.zero_add, Nat.add_zero, Nat.reduceAdd, Nat.reduceBEq, Nat.reduceEqDiff, Nat.ble, BEq.rfl, Bool.and_true, Bool.and_self, cond_true, beq_self_eq_true]; rfl) ?_)
            clear hl hh a w; intro k62 a w hl hh
            refine wl (w_append (news := [.int .i64 (z.i : Int), .int .i64 (u.i : Int)]) hl hh rfl trivial app133 rfl rfl rfl hrowN (by repeat (first | exact keeps_nil | apply keeps_cons (by repeat (first | exact find_head | apply find_tail | apply find_skip)) (by first  | rfl) | exact keeps_self | exact keeps_left | apply keeps_app | apply keeps_mv | apply keeps_skip)) (hh.mem _ _ (Find.mem (by repeat (first | exact find_head | apply find_tail | apply find_skip)))) rfl rfl rfl (by omega) (by omega) (by omega) (by decide) ?_)
            clear hl hh a w; intro rv2 E2 a w hR2 hl hh
            have hh3 := hh.comm; clear hh; have hh := hh3; clear hh3
            try simp only [List.cons_append, List.nil_append, List.append_assoc, List.append_nil] at hh
            refine wl (wl_val hl rfl trivial (r_assign hl rfl) ?_)
            clear hl a; intro a hl
            refine w_nil ?_
            have hl2 := hl.add (t := 0) (hl.add (t := 1) (hl.add (t := 4) (hl.add (t := 5) (hl.add (t := 6) (hl.add (t := 7) (hl.add (t := 12) (hl.add (t := 13) (hl.add (t := 22) (hl.add (t := 23) (hl.add (t := 24) (hl.nil) rfl) rfl) rfl) rfl) rfl) rfl) rfl) rfl) rfl) rfl) rfl; clear hl; have hl := hl2; clear hl2
            obtain ⟨p9, c9x, hv9⟩ := row_val hR2
            subst hv9
            refine blk_normal ?_
            refine then_normal ?_
            refine c_region ?_
            first | refine wl (wl_val hl rfl trivial (r_add hl rfl rfl (by simp only [Fits]; omega)) ?_) | refine wl (wl_val hl rfl trivial (r_addW hl rfl rfl) ?_)
            clear hl a; intro a hl
            refine wl (wl_val hl rfl trivial (r_move hl rfl) ?_)
            clear hl a; intro a hl
            refine w_nil ?_
            have hl2 := hl.add (t := 0) (hl.add (t := 1) (hl.add (t := 4) (hl.add (t := 5) (hl.add (t := 6) (hl.add (t := 7) (hl.add (t := 12) (hl.add (t := 13) (hl.add (t := 22) (hl.add (t := 23) (hl.add (t := 24) (hl.nil) rfl) rfl) rfl) rfl) rfl) rfl) rfl) rfl) rfl) rfl) rfl; clear hl; have hl := hl2; clear hl2
            refine then_normal ?_
            refine ⟨⟨u.i + 1, (u.ac.1, u.ac.2 ++ [(z.i, u.i)]), p9, c9x, E2, u.y⟩, (by simp only; omega), ⟨by simp only; omega, by rw [inner_succ (X.at_ hx), ← hu.ac, ls_eq hpl2 hne0 (by rw [← hcm hne0]; omega)], row_snoc (f := qc2) (x := (z.i, u.i)) hR2, hu.yl, hu.yo, by show (u.ac.2 ++ [(z.i, u.i)]).length ≤ z.i * X.xs.length + (u.i + 1); rw [List.length_append, List.length_singleton]; omega⟩, hl.addE (t := 24) (hl.addE (t := 5) (hl.addE (t := 0) (hl.addE (t := 1) (hl.addE (t := 4) (hl.addE (t := 6) (hl.addE (t := 7) (hl.addE (t := 12) (hl.addE (t := 13) (hl.addE (t := 22) (hl.addE (t := 23) (hl.nil) rfl (by first | rfl | exact congrArg (Value.int .i64) (show (u.i : Int) + 1 = ((u.i + 1 : Nat) : Int) by omega) | (simp [List.length_append]; done))) rfl (by first | rfl | exact congrArg (Value.int .i64) (show (u.i : Int) + 1 = ((u.i + 1 : Nat) : Int) by omega) | (simp [List.length_append]; done))) rfl (by first | rfl | exact congrArg (Value.int .i64) (show (u.i : Int) + 1 = ((u.i + 1 : Nat) : Int) by omega) | (simp [List.length_append]; done))) rfl (by first | rfl | exact congrArg (Value.int .i64) (show (u.i : Int) + 1 = ((u.i + 1 : Nat) : Int) by omega) | (simp [List.length_append]; done))) rfl (by first | rfl | exact congrArg (Value.int .i64) (show (u.i : Int) + 1 = ((u.i + 1 : Nat) : Int) by omega) | (simp [List.length_append]; done))) rfl (by first | rfl | exact congrArg (Value.int .i64) (show (u.i : Int) + 1 = ((u.i + 1 : Nat) : Int) by omega) | (simp [List.length_append]; done))) rfl (by first | rfl | exact congrArg (Value.int .i64) (show (u.i : Int) + 1 = ((u.i + 1 : Nat) : Int) by omega) | (simp [List.length_append]; done))) rfl (by first | rfl | exact congrArg (Value.int .i64) (show (u.i : Int) + 1 = ((u.i + 1 : Nat) : Int) by omega) | (simp [List.length_append]; done))) rfl (by first | rfl | exact congrArg (Value.int .i64) (show (u.i : Int) + 1 = ((u.i + 1 : Nat) : Int) by omega) | (simp [List.length_append]; done))) rfl (by first | rfl | exact congrArg (Value.int .i64) (show (u.i : Int) + 1 = ((u.i + 1 : Nat) : Int) by omega) | (simp [List.length_append]; done))) rfl (by first | rfl | exact congrArg (Value.int .i64) (show (u.i : Int) + 1 = ((u.i + 1 : Nat) : Int) by omega) | (simp [List.length_append]; done)), hh.keep (by repeat (first | exact keeps_nil | apply keeps_cons (by repeat (first | exact find_head | apply find_tail | apply find_skip)) (by first  | rfl) | exact keeps_self | exact keeps_left | apply keeps_app | apply keeps_mv | apply keeps_skip))⟩
          ·
            have hne0 : u.ac.2 ≠ [] := fun e => by have := hcn e; omega
            refine c_region ?_
            refine wl (wl_val hl rfl trivial (r_move hl rfl) ?_)
            clear hl a; intro a hl
            refine wl (wl_val hl rfl trivial (r_lss hl rfl rfl) ?_)
            clear hl a; intro a hl
            rw [show decide (c9 < 0) = false from decide_eq_false (by omega)] at hl
            refine w_nil ?_
            have hl2 := hl.add (t := 0) (hl.add (t := 1) (hl.add (t := 4) (hl.add (t := 5) (hl.add (t := 6) (hl.add (t := 7) (hl.add (t := 8) (hl.add (t := 9) (hl.add (t := 10) (hl.add (t := 12) (hl.add (t := 13) (hl.add (t := 22) (hl.add (t := 23) (hl.add (t := 24) (hl.add (t := 52) (hl.nil) rfl) rfl) rfl) rfl) rfl) rfl) rfl) rfl) rfl) rfl) rfl) rfl) rfl) rfl) rfl; clear hl; have hl := hl2; clear hl2
            refine then_normal ?_
            refine c_condF hl rfl ?_
            refine wp_skip ?_
            refine then_normal ?_
            refine c_seq ?_
            refine c_region ?_
            refine wl (wl_val hl rfl trivial (r_move hl rfl) ?_)
            clear hl a; intro a hl
            refine wl (wl_val hl rfl trivial (r_leq hl rfl rfl) ?_)
            clear hl a; intro a hl
            rw [show decide (c9 ≤ 0) = false from decide_eq_false (by omega)] at hl
            refine w_nil ?_
            have hl2 := hl.add (t := 0) (hl.add (t := 1) (hl.add (t := 4) (hl.add (t := 5) (hl.add (t := 6) (hl.add (t := 7) (hl.add (t := 8) (hl.add (t := 12) (hl.add (t := 13) (hl.add (t := 22) (hl.add (t := 23) (hl.add (t := 24) (hl.add (t := 57) (hl.nil) rfl) rfl) rfl) rfl) rfl) rfl) rfl) rfl) rfl) rfl) rfl) rfl) rfl; clear hl; have hl := hl2; clear hl2
            refine then_normal ?_
            refine c_condF hl rfl ?_
            refine wp_skip ?_
            refine blk_normal ?_
            refine then_normal ?_
            refine c_region ?_
            first | refine wl (wl_val hl rfl trivial (r_add hl rfl rfl (by simp only [Fits]; omega)) ?_) | refine wl (wl_val hl rfl trivial (r_addW hl rfl rfl) ?_)
            clear hl a; intro a hl
            refine wl (wl_val hl rfl trivial (r_move hl rfl) ?_)
            clear hl a; intro a hl
            refine w_nil ?_
            have hl2 := hl.add (t := 0) (hl.add (t := 1) (hl.add (t := 4) (hl.add (t := 5) (hl.add (t := 6) (hl.add (t := 7) (hl.add (t := 12) (hl.add (t := 13) (hl.add (t := 22) (hl.add (t := 23) (hl.add (t := 24) (hl.nil) rfl) rfl) rfl) rfl) rfl) rfl) rfl) rfl) rfl) rfl) rfl; clear hl; have hl := hl2; clear hl2
            refine then_normal ?_
            refine ⟨⟨u.i + 1, u.ac, u.pp, u.pc, u.Ep, u.y⟩, (by simp only; omega), ⟨by simp only; omega, by rw [inner_succ (X.at_ hx), ← hu.ac, ls_gt hpl2 hne0 (by rw [← hcm hne0]; omega)], hu.row, hu.yl, hu.yo, by simp only; omega⟩, hl.addE (t := 24) (hl.addE (t := 5) (hl.addE (t := 0) (hl.addE (t := 1) (hl.addE (t := 4) (hl.addE (t := 6) (hl.addE (t := 7) (hl.addE (t := 12) (hl.addE (t := 13) (hl.addE (t := 22) (hl.addE (t := 23) (hl.nil) rfl (by first | rfl | exact congrArg (Value.int .i64) (show (u.i : Int) + 1 = ((u.i + 1 : Nat) : Int) by omega) | (simp [List.length_append]; done))) rfl (by first | rfl | exact congrArg (Value.int .i64) (show (u.i : Int) + 1 = ((u.i + 1 : Nat) : Int) by omega) | (simp [List.length_append]; done))) rfl (by first | rfl | exact congrArg (Value.int .i64) (show (u.i : Int) + 1 = ((u.i + 1 : Nat) : Int) by omega) | (simp [List.length_append]; done))) rfl (by first | rfl | exact congrArg (Value.int .i64) (show (u.i : Int) + 1 = ((u.i + 1 : Nat) : Int) by omega) | (simp [List.length_append]; done))) rfl (by first | rfl | exact congrArg (Value.int .i64) (show (u.i : Int) + 1 = ((u.i + 1 : Nat) : Int) by omega) | (simp [List.length_append]; done))) rfl (by first | rfl | exact congrArg (Value.int .i64) (show (u.i : Int) + 1 = ((u.i + 1 : Nat) : Int) by omega) | (simp [List.length_append]; done))) rfl (by first | rfl | exact congrArg (Value.int .i64) (show (u.i : Int) + 1 = ((u.i + 1 : Nat) : Int) by omega) | (simp [List.length_append]; done))) rfl (by first | rfl | exact congrArg (Value.int .i64) (show (u.i : Int) + 1 = ((u.i + 1 : Nat) : Int) by omega) | (simp [List.length_append]; done))) rfl (by first | rfl | exact congrArg (Value.int .i64) (show (u.i : Int) + 1 = ((u.i + 1 : Nat) : Int) by omega) | (simp [List.length_append]; done))) rfl (by first | rfl | exact congrArg (Value.int .i64) (show (u.i : Int) + 1 = ((u.i + 1 : Nat) : Int) by omega) | (simp [List.length_append]; done))) rfl (by first | rfl | exact congrArg (Value.int .i64) (show (u.i : Int) + 1 = ((u.i + 1 : Nat) : Int) by omega) | (simp [List.length_append]; done)), hh.keep (by repeat (first | exact keeps_nil | apply keeps_cons (by repeat (first | exact find_head | apply find_tail | apply find_skip)) (by first  | rfl) | exact keeps_self | exact keeps_left | apply keeps_app | apply keeps_mv | apply keeps_skip))⟩
        · intro hc3
          try simp only [decide_eq_true_eq, decide_eq_false_iff_not, Bool.not_eq_true', Bool.not_eq_false', Bool.not_eq_true, Bool.not_eq_false, Bool.and_eq_true, Bool.or_eq_true, Bool.and_eq_false_iff, Bool.or_eq_false_iff, Bool.not_not, ne_eq, Int.not_lt, Int.not_le, Decidable.not_not, beq_iff_eq, bne_iff_ne] at hc3
          have he0 : u.ac.2 = [] := List.eq_nil_of_length_eq_zero (by omega)
          obtain ⟨c9, hc9⟩ : ∃ c : Int, (-1 : Int) = c := ⟨_, rfl⟩
          rw [hc9] at hl
          have hcn : u.ac.2 = [] → c9 = -1 := fun _ => hc9.symm
          have hcm : u.ac.2 ≠ [] → c9 = cmpL (rdL st.core.2 x.l) u.ac.1 := fun h9 => absurd he0 h9
          refine wp_skip ?_
          refine then_normal ?_
          refine c_seq ?_
          refine c_seq ?_
          rcases (show c9 < 0 ∨ c9 = 0 ∨ 0 < c9 by omega) with hcc | hcc | hcc
          ·
            have hnew : u.ac.2 = [] ∨ cmpL (rdL st.core.2 x.l) u.ac.1 < 0 := Classical.byCases (fun h9 : u.ac.2 = [] => .inl h9) (fun h9 => .inr (by rw [← hcm h9]; exact hcc))
            refine c_region ?_
            refine wl (wl_val hl rfl trivial (r_move hl rfl) ?_)
            clear hl a; intro a hl
            refine wl (wl_val hl rfl trivial (r_lss hl rfl rfl) ?_)
            clear hl a; intro a hl
            rw [show decide (c9 < 0) = true from decide_eq_true (by omega)] at hl
            refine w_nil ?_
            have hl2 := hl.add (t := 0) (hl.add (t := 1) (hl.add (t := 4) (hl.add (t := 5) (hl.add (t := 6) (hl.add (t := 7) (hl.add (t := 8) (hl.add (t := 9) (hl.add (t := 10) (hl.add (t := 12) (hl.add (t := 13) (hl.add (t := 22) (hl.add (t := 23) (hl.add (t := 24) (hl.add (t := 52) (hl.nil) rfl) rfl) rfl) rfl) rfl) rfl) rfl) rfl) rfl) rfl) rfl) rfl) rfl) rfl) rfl; clear hl; have hl := hl2; clear hl2
            refine then_normal ?_
            refine c_condT hl rfl ?_
            refine c_draw [(k9, C [.int .u8 x.l.k, .int .u8 x.l.o, .string x.l.p, .slice rp (rdL (st.num, st.nx) x.l).a.length rc] 48)] [4] mixed hh ?_
            clear hh w; intro w hh
            have hM : Mem [(k9, C [.int .u8 x.l.k, .int .u8 x.l.o, .string x.l.p, .slice rp (rdL (st.num, st.nx) x.l).a.length rc] 48)] w := (by (repeat (first | exact Mem.nil | refine Mem.consR hh (by assumption) (by simp) ?_ | refine Mem.cons hh.mem (by (repeat (first | exact find_head | apply find_tail | apply find_skip)); done) ?_ | fail)); done)
            refine d_take (i := 0) hl rfl (by kernel_rfl) (by kernel_rfl) (by kernel_rfl) (by kernel_rfl) (by kernel_rfl) rfl trivial (fun _ _ _ h => h) hM (fun w hC => r_loadCA hl rfl agg48 hC (by repeat (first | exact find_head | apply find_tail | apply find_skip)) (by first | (simp only [List.getElem?_cons_zero, List.getElem?_cons_succ, Value.cells, List.take_zero, List.take_succ_cons, List.take_nil, List.drop_zero, List.drop_succ_cons, List.drop_nil, List.length_cons, List.length_nil, List.cons_append, List.nil_append, List.append_nil, Nat.zero_add, Nat.add_zero, Nat.reduceAdd, Nat.reduceBEq, Nat.reduceEqDiff, Nat.ble, BEq.rfl, Bool.and_true, Bool.and_self, cond_true, beq_self_eq_true]; rfl)) (by first | rfl | (simp; done))) rfl ?_
            clear hl a; intro a hl
            refine d_take (i := 1) hl rfl (by kernel_rfl) (by kernel_rfl) (by kernel_rfl) (by kernel_rfl) (by kernel_rfl) rfl trivial (fun _ _ _ h => h) hM (fun w hC => r_move hl rfl) rfl ?_
            clear hl a; intro a hl
            refine d_take (i := 2) hl rfl (by kernel_rfl) (by kernel_rfl) (by kernel_rfl) (by kernel_rfl) (by kernel_rfl) rfl trivial (fun _ _ _ h => h) hM (fun w hC => r_sliceS01 (by intro q e; first | (cases e; rfl) | (cases e; done) | exact hpn q e) hl rfl rfl slc133 (by omega) (by first | (simp only [Int.reduceToNat]; rfl) | exact toNat_add1 _ | exact toNat_add2 _ _ | exact toNat_emod _ _ | exact Int.toNat_natCast _ | rfl)) rfl ?_
            clear hl a; intro a hl
            refine d_one (i := 3) (by kernel_rfl) rfl ?_
            try clear hM
            refine id (w_storeA hl hh trivial agg48 rfl rfl (by repeat (first | exact find_head | apply find_tail | apply find_skip)) (by first | rfl | (simp; done)) (by first | (simp; done) | (simp; omega)) (by first | rfl | (simp; done) | rfl) (by first | (simp only [setL, List.getElem?_cons_zero, List.getElem?_cons_succ, Value.cells, List.take_zero, List.take_succ_cons, List.take_nil, List.drop_zero, List.drop_succ_cons, List.drop_nil, List.length_cons, List.length_nil, List.cons_append, List.nil_append, List.append_nil, Nat.zero_add, Nat.add_zero, Nat.reduceAdd, Nat.reduceBEq, Nat.reduceEqDiff, Nat.ble, BEq.rfl, Bool.and_true, Bool.and_self, cond_true, beq_self_eq_true]; rfl)) ?_)
            clear hh w; intro w hh
            have hM : Mem [(k9, C [.int .u8 x.l.k, .int .u8 x.l.o, .string x.l.p, .slice rp (rdL (st.num, st.nx) x.l).a.length rc] 48)] w := (by (repeat (first | exact Mem.nil | refine Mem.consR hh (by assumption) (by simp) ?_ | refine Mem.cons hh.mem (by (repeat (first | exact find_head | apply find_tail | apply find_skip)); done) ?_ | fail)); done)
            refine d_step (fun _ => hM) ?_
            refine d_takeL (i := 4) hl rfl (by kernel_rfl) (by kernel_rfl) (by kernel_rfl) (by kernel_rfl) (by kernel_rfl) rfl trivial (fun _ _ _ h => h) (fun w => r_assign hl rfl) rfl ?_
            clear hl a; intro a hl
            refine d_done (by kernel_rfl) ?_
            try clear hM
            have hl2 := hl.add (t := 0) (hl.add (t := 1) (hl.add (t := 4) (hl.add (t := 5) (hl.add (t := 6) (hl.add (t := 7) (hl.add (t := 8) (hl.add (t := 10) (hl.add (t := 12) (hl.add (t := 13) (hl.add (t := 22) (hl.add (t := 23) (hl.add (t := 24) (hl.nil) rfl) rfl) rfl) rfl) rfl) rfl) rfl) rfl) rfl) rfl) rfl) rfl) rfl; clear hl; have hl := hl2; clear hl2
            have hrowN := row_cut0 hu.row
            refine then_normal ?_
            refine c_seq ?_
            refine c_region ?_
            refine wl (wl_val hl rfl trivial (r_move hl rfl) ?_)
            clear hl a; intro a hl
            refine wl (wl_val hl rfl trivial (r_leq hl rfl rfl) ?_)
            clear hl a; intro a hl
            rw [show decide (c9 ≤ 0) = true from decide_eq_true (by omega)] at hl
            refine w_nil ?_
            have hl2 := hl.add (t := 0) (hl.add (t := 1) (hl.add (t := 4) (hl.add (t := 5) (hl.add (t := 6) (hl.add (t := 7) (hl.add (t := 8) (hl.add (t := 12) (hl.add (t := 13) (hl.add (t := 22) (hl.add (t := 23) (hl.add (t := 24) (hl.add (t := 57) (hl.nil) rfl) rfl) rfl) rfl) rfl) rfl) rfl) rfl) rfl) rfl) rfl) rfl) rfl; clear hl; have hl := hl2; clear hl2
            refine then_normal ?_
            refine c_condT hl rfl ?_
            refine c_region ?_
            refine wl (wl_val hl rfl trivial (r_move hl rfl) ?_)
            clear hl a; intro a hl
            refine wl (wl_val hl rfl trivial (r_move hl rfl) ?_)
            clear hl a; intro a hl
            refine wl (wl_val hl rfl trivial (r_move hl rfl) ?_)
            clear hl a; intro a hl
            refine wl (wl_val hl rfl trivial (r_build hl rfl zero181 bld181 (by simp only [fillL, setL, List.getElem?_cons_zero, List.getElem?_cons_succ, Value.cells, List.take_zero, List.take_succ_cons, List.take_nil, List.drop_zero, List.drop_succ_cons, List.drop_nil, List.length_cons, List.length_nil, List.cons_append, List.nil_append, List.append_nil, Nat.zero_add, Nat.add_zero, Nat.reduceAdd, Nat.reduceBEq, Nat.reduceEqDiff, Nat.ble, BEq.rfl, Bool.and_true, Bool.and_self, cond_true, beq_self_eq_true]; rfl)) ?_)
            clear hl a; intro a hl
            refine wl (w_buildSlice hl hh rfl trivial app133 zero181 rfl rfl rfl rfl rfl (by simp only [fillL, arrPl, List.range_succ, List.range_zero, List.map_cons, List.map_nil, List.map_append, List.nil_append, List.replicate_succ, List.replicate_zero, List.flatten_cons, List.flatten_nil, Nat.zero_mul, Nat.mul_one, Nat.one_mul, Nat.reduceMul, setL, List.getElem?_cons_zero, List.getElem?_cons_succ, Value.cells, List.take_zero, List.take_succ_cons, List.take_nil, List.drop_zero, List.drop_succ_cons, List.drop_nil, List.length_cons, List.length_nil, List.cons_append, List.nil_append, List.append_nil, Nat.zero_add, Nat.add_zero, Nat.reduceAdd, Nat.reduceBEq, Nat.reduceEqDiff, Nat.ble, BEq.rfl, Bool.and_true, Bool.and_self, cond_true, beq_self_eq_true]; rfl) ?_)
            clear hl hh a w; intro k62 a w hl hh
            refine wl (w_append (news := [.int .i64 (z.i : Int), .int .i64 (u.i : Int)]) hl hh rfl trivial app133 rfl rfl rfl hrowN (by repeat (first | exact keeps_nil | apply keeps_cons (by repeat (first | exact find_head | apply find_tail | apply find_skip)) (by first  | rfl) | exact keeps_self | exact keeps_left | apply keeps_app | apply keeps_mv | apply keeps_skip)) (hh.mem _ _ (Find.mem (by repeat (first | exact find_head | apply find_tail | apply find_skip)))) rfl rfl rfl (by omega) (by omega) (by omega) (by decide) ?_)
            clear hl hh a w; intro rv2 E2 a w hR2 hl hh
            have hh3 := hh.comm; clear hh; have hh := hh3; clear hh3
            try simp only [List.cons_append, List.nil_append, List.append_assoc, List.append_nil] at hh
            refine wl (wl_val hl rfl trivial (r_assign hl rfl) ?_)
            clear hl a; intro a hl
            refine w_nil ?_
            have hl2 := hl.add (t := 0) (hl.add (t := 1) (hl.add (t := 4) (hl.add (t := 5) (hl.add (t := 6) (hl.add (t := 7) (hl.add (t := 12) (hl.add (t := 13) (hl.add (t := 22) (hl.add (t := 23) (hl.add (t := 24) (hl.nil) rfl) rfl) rfl) rfl) rfl) rfl) rfl) rfl) rfl) rfl) rfl; clear hl; have hl := hl2; clear hl2
            obtain ⟨p9, c9x, hv9⟩ := row_val hR2
            subst hv9
            refine blk_normal ?_
            refine then_normal ?_
            refine c_region ?_
            first | refine wl (wl_val hl rfl trivial (r_add hl rfl rfl (by simp only [Fits]; omega)) ?_) | refine wl (wl_val hl rfl trivial (r_addW hl rfl rfl) ?_)
            clear hl a; intro a hl
            refine wl (wl_val hl rfl trivial (r_move hl rfl) ?_)
            clear hl a; intro a hl
            refine w_nil ?_
            have hl2 := hl.add (t := 0) (hl.add (t := 1) (hl.add (t := 4) (hl.add (t := 5) (hl.add (t := 6) (hl.add (t := 7) (hl.add (t := 12) (hl.add (t := 13) (hl.add (t := 22) (hl.add (t := 23) (hl.add (t := 24) (hl.nil) rfl) rfl) rfl) rfl) rfl) rfl) rfl) rfl) rfl) rfl) rfl; clear hl; have hl := hl2; clear hl2
            refine then_normal ?_
            refine ⟨⟨u.i + 1, (rdL (st.num, st.nx) x.l, [(z.i, u.i)]), p9, c9x, E2, (⟨rdL (st.num, st.nx) x.l, rp, rc, Fo⟩ : LV)⟩, (by simp only; omega), ⟨by simp only; omega, by rw [inner_succ (X.at_ hx), ← hu.ac, ls_new hpl2 hnew]; rfl, hR2, rfl, hyo, by show 1 ≤ z.i * X.xs.length + (u.i + 1); omega⟩, hl.addE (t := 24) (hl.addE (t := 5) (hl.addE (t := 0) (hl.addE (t := 1) (hl.addE (t := 4) (hl.addE (t := 6) (hl.addE (t := 7) (hl.addE (t := 12) (hl.addE (t := 13) (hl.addE (t := 22) (hl.addE (t := 23) (hl.nil) rfl (by first | rfl | exact congrArg (Value.int .i64) (show (u.i : Int) + 1 = ((u.i + 1 : Nat) : Int) by omega) | (simp [List.length_append]; done))) rfl (by first | rfl | exact congrArg (Value.int .i64) (show (u.i : Int) + 1 = ((u.i + 1 : Nat) : Int) by omega) | (simp [List.length_append]; done))) rfl (by first | rfl | exact congrArg (Value.int .i64) (show (u.i : Int) + 1 = ((u.i + 1 : Nat) : Int) by omega) | (simp [List.length_append]; done))) rfl (by first | rfl | exact congrArg (Value.int .i64) (show (u.i : Int) + 1 = ((u.i + 1 : Nat) : Int) by omega) | (simp [List.length_append]; done))) rfl (by first | rfl | exact congrArg (Value.int .i64) (show (u.i : Int) + 1 = ((u.i + 1 : Nat) : Int) by omega) | (simp [List.length_append]; done))) rfl (by first | rfl | exact congrArg (Value.int .i64) (show (u.i : Int) + 1 = ((u.i + 1 : Nat) : Int) by omega) | (simp [List.length_append]; done))) rfl (by first | rfl | exact congrArg (Value.int .i64) (show (u.i : Int) + 1 = ((u.i + 1 : Nat) : Int) by omega) | (simp [List.length_append]; done))) rfl (by first | rfl | exact congrArg (Value.int .i64) (show (u.i : Int) + 1 = ((u.i + 1 : Nat) : Int) by omega) | (simp [List.length_append]; done))) rfl (by first | rfl | exact congrArg (Value.int .i64) (show (u.i : Int) + 1 = ((u.i + 1 : Nat) : Int) by omega) | (simp [List.length_append]; done))) rfl (by first | rfl | exact congrArg (Value.int .i64) (show (u.i : Int) + 1 = ((u.i + 1 : Nat) : Int) by omega) | (simp [List.length_append]; done))) rfl (by first | rfl | exact congrArg (Value.int .i64) (show (u.i : Int) + 1 = ((u.i + 1 : Nat) : Int) by omega) | (simp [List.length_append]; done)), hh.keep (by repeat (first | exact keeps_nil | apply keeps_cons (by repeat (first | exact find_head | apply find_tail | apply find_skip)) (by first  | rfl) | exact keeps_self | exact keeps_left | apply keeps_app | apply keeps_mv | apply keeps_skip))⟩
          ·
            have hne0 : u.ac.2 ≠ [] := fun e => by have := hcn e; omega
            have hrowN := hu.row
            refine c_region ?_
            refine wl (wl_val hl rfl trivial (r_move hl rfl) ?_)
            clear hl a; intro a hl
            refine wl (wl_val hl rfl trivial (r_lss hl rfl rfl) ?_)
            clear hl a; intro a hl
            rw [show decide (c9 < 0) = false from decide_eq_false (by omega)] at hl
            refine w_nil ?_
            have hl2 := hl.add (t := 0) (hl.add (t := 1) (hl.add (t := 4) (hl.add (t := 5) (hl.add (t := 6) (hl.add (t := 7) (hl.add (t := 8) (hl.add (t := 9) (hl.add (t := 10) (hl.add (t := 12) (hl.add (t := 13) (hl.add (t := 22) (hl.add (t := 23) (hl.add (t := 24) (hl.add (t := 52) (hl.nil) rfl) rfl) rfl) rfl) rfl) rfl) rfl) rfl) rfl) rfl) rfl) rfl) rfl) rfl) rfl; clear hl; have hl := hl2; clear hl2
            refine then_normal ?_
            refine c_condF hl rfl ?_
            refine wp_skip ?_
            refine then_normal ?_
            refine c_seq ?_
            refine c_region ?_
            refine wl (wl_val hl rfl trivial (r_move hl rfl) ?_)
            clear hl a; intro a hl
            refine wl (wl_val hl rfl trivial (r_leq hl rfl rfl) ?_)
            clear hl a; intro a hl
            rw [show decide (c9 ≤ 0) = true from decide_eq_true (by omega)] at hl
            refine w_nil ?_
            have hl2 := hl.add (t := 0) (hl.add (t := 1) (hl.add (t := 4) (hl.add (t := 5) (hl.add (t := 6) (hl.add (t := 7) (hl.add (t := 8) (hl.add (t := 12) (hl.add (t := 13) (hl.add (t := 22) (hl.add (t := 23) (hl.add (t := 24) (hl.add (t := 57) (hl.nil) rfl) rfl) rfl) rfl) rfl) rfl) rfl) rfl) rfl) rfl) rfl) rfl) rfl; clear hl; have hl := hl2; clear hl2
            refine then_normal ?_
            refine c_condT hl rfl ?_
            refine c_region ?_
            refine wl (wl_val hl rfl trivial (r_move hl rfl) ?_)
            clear hl a; intro a hl
            refine wl (wl_val hl rfl trivial (r_move hl rfl) ?_)
            clear hl a; intro a hl
            refine wl (wl_val hl rfl trivial (r_move hl rfl) ?_)
            clear hl a; intro a hl
            refine wl (wl_val hl rfl trivial (r_build hl rfl zero181 bld181 (by simp only [fillL, setL, List.getElem?_cons_zero, List.getElem?_cons_succ, Value.cells, List.take_zero, List.take_succ_cons, List.take_nil, List.drop_zero, List.drop_succ_cons, List.drop_nil, List.length_cons, List.length_nil, List.cons_append, List.nil_append, List.append_nil, Nat.zero_add, Nat.add_zero, Nat.reduceAdd, Nat.reduceBEq, Nat.reduceEqDiff, Nat.ble, BEq.rfl, Bool.and_true, Bool.and_self, cond_true, beq_self_eq_true]; rfl)) ?_)
            clear hl a; intro a hl
            refine wl (w_buildSlice hl hh rfl trivial app133 zero181 rfl rfl rfl rfl rfl (by simp only [fillL, arrPl, List.range_succ, List.range_zero, List.map_cons, List.map_nil, List.map_append, List.nil_append, List.replicate_succ, List.replicate_zero, List.flatten_cons, List.flatten_nil, Nat.zero_mul, Nat.mul_one, Nat.one_mul, Nat.reduceMul, setL, List.getElem?_cons_zero, List.getElem?_cons_succ, Value.cells, List.take_zero, List.take_succ_cons, List.take_nil, List.drop_zero, List.drop_succ_cons, List.drop_nil, List.length_cons, List.length_nil, List.cons_append, List.nil_append, List.append_nil, Nat.zero_add, Nat.add_zero, Nat.reduceAdd, Nat.reduceBEq, Nat.reduceEqDiff, Nat.ble, BEq.rfl, Bool.and_true, Bool.and_self, cond_true, beq_self_eq_true]; rfl) ?_)
            clear hl hh a w; intro k62 a w hl hh
            refine wl (w_append (news := [.int .i64 (z.i : Int), .int .i64 (u.i : Int)]) hl hh rfl trivial app133 rfl rfl rfl hrowN (by repeat (first | exact keeps_nil | apply keeps_cons (by repeat (first | exact find_head | apply find_tail | apply find_skip)) (by first  | rfl) | exact keeps_self | exact keeps_left | apply keeps_app | apply keeps_mv | apply keeps_skip)) (hh.mem _ _ (Find.mem (by repeat (first | exact find_head | apply find_tail | apply find_skip)))) rfl rfl rfl (by omega) (by omega) (by omega) (by decide) ?_)
            clear hl hh a w; intro rv2 E2 a w hR2 hl hh
            have hh3 := hh.comm; clear hh; have hh := hh3; clear hh3
            try simp only [List.cons_append, List.nil_append, List.append_assoc, List.append_nil] at hh
            refine wl (wl_val hl rfl trivial (r_assign hl rfl) ?_)
            clear hl a; intro a hl
            refine w_nil ?_
            have hl2 := hl.add (t := 0) (hl.add (t := 1) (hl.add (t := 4) (hl.add (t := 5) (hl.add (t := 6) (hl.add (t := 7) (hl.add (t := 12) (hl.add (t := 13) (hl.add (t := 22) (hl.add (t := 23) (hl.add (t := 24) (hl.nil) rfl) rfl) rfl) rfl) rfl) rfl) rfl) rfl) rfl) rfl) rfl; clear hl; have hl := hl2; clear hl2
            obtain ⟨p9, c9x, hv9⟩ := row_val hR2
            subst hv9
            refine blk_normal ?_
            refine then_normal ?_
            refine c_region ?_
            first | refine wl (wl_val hl rfl trivial (r_add hl rfl rfl (by simp only [Fits]; omega)) ?_) | refine wl (wl_val hl rfl trivial (r_addW hl rfl rfl) ?_)
            clear hl a; intro a hl
            refine wl (wl_val hl rfl trivial (r_move hl rfl) ?_)
            clear hl a; intro a hl
            refine w_nil ?_
            have hl2 := hl.add (t := 0) (hl.add (t := 1) (hl.add (t := 4) (hl.add (t := 5) (hl.add (t := 6) (hl.add (t := 7) (hl.add (t := 12) (hl.add (t := 13) (hl.add (t := 22) (hl.add (t := 23) (hl.add (t := 24) (hl.nil) rfl) rfl) rfl) rfl) rfl) rfl) rfl) rfl) rfl) rfl) rfl; clear hl; have hl := hl2; clear hl2
            refine then_normal ?_
            refine ⟨⟨u.i + 1, (u.ac.1, u.ac.2 ++ [(z.i, u.i)]), p9, c9x, E2, u.y⟩, (by simp only; omega), ⟨by simp only; omega, by rw [inner_succ (X.at_ hx), ← hu.ac, ls_eq hpl2 hne0 (by rw [← hcm hne0]; omega)], row_snoc (f := qc2) (x := (z.i, u.i)) hR2, hu.yl, hu.yo, by show (u.ac.2 ++ [(z.i, u.i)]).length ≤ z.i * X.xs.length + (u.i + 1); rw [List.length_append, List.length_singleton]; omega⟩, hl.addE (t := 24) (hl.addE (t := 5) (hl.addE (t := 0) (hl.addE (t := 1) (hl.addE (t := 4) (hl.addE (t := 6) (hl.addE (t := 7) (hl.addE (t := 12) (hl.addE (t := 13) (hl.addE (t := 22) (hl.addE (t := 23) (hl.nil) rfl (by first | rfl | exact congrArg (Value.int .i64) (show (u.i : Int) + 1 = ((u.i + 1 : Nat) : Int) by omega) | (simp [List.length_append]; done))) rfl (by first | rfl | exact congrArg (Value.int .i64) (show (u.i : Int) + 1 = ((u.i + 1 : Nat) : Int) by omega) | (simp [List.length_append]; done))) rfl (by first | rfl | exact congrArg (Value.int .i64) (show (u.i : Int) + 1 = ((u.i + 1 : Nat) : Int) by omega) | (simp [List.length_append]; done))) rfl (by first | rfl | exact congrArg (Value.int .i64) (show (u.i : Int) + 1 = ((u.i + 1 : Nat) : Int) by omega) | (simp [List.length_append]; done))) rfl (by first | rfl | exact congrArg (Value.int .i64) (show (u.i : Int) + 1 = ((u.i + 1 : Nat) : Int) by omega) | (simp [List.length_append]; done))) rfl (by first | rfl | exact congrArg (Value.int .i64) (show (u.i : Int) + 1 = ((u.i + 1 : Nat) : Int) by omega) | (simp [List.length_append]; done))) rfl (by first | rfl | exact congrArg (Value.int .i64) (show (u.i : Int) + 1 = ((u.i + 1 : Nat) : Int) by omega) | (simp [List.length_append]; done))) rfl (by first | rfl | exact congrArg (Value.int .i64) (show (u.i : Int) + 1 = ((u.i + 1 : Nat) : Int) by omega) | (simp [List.length_append]; done))) rfl (by first | rfl | exact congrArg (Value.int .i64) (show (u.i : Int) + 1 = ((u.i + 1 : Nat) : Int) by omega) | (simp [List.length_append]; done))) rfl (by first | rfl | exact congrArg (Value.int .i64) (show (u.i : Int) + 1 = ((u.i + 1 : Nat) : Int) by omega) | (simp [List.length_append]; done))) rfl (by first | rfl | exact congrArg (Value.int .i64) (show (u.i : Int) + 1 = ((u.i + 1 : Nat) : Int) by omega) | (simp [List.length_append]; done)), hh.keep (by repeat (first | exact keeps_nil | apply keeps_cons (by repeat (first | exact find_head | apply find_tail | apply find_skip)) (by first  | rfl) | exact keeps_self | exact keeps_left | apply keeps_app | apply keeps_mv | apply keeps_skip))⟩
          ·
            have hne0 : u.ac.2 ≠ [] := fun e => by have := hcn e; omega
            refine c_region ?_
            refine wl (wl_val hl rfl trivial (r_move hl rfl) ?_)
            clear hl a; intro a hl
            refine wl (wl_val hl rfl trivial (r_lss hl rfl rfl) ?_)
            clear hl a; intro a hl
            rw [show decide (c9 < 0) = false from decide_eq_false (by omega)] at hl
            refine w_nil ?_
            have hl2 := hl.add (t := 0) (hl.add (t := 1) (hl.add (t := 4) (hl.add (t := 5) (hl.add (t := 6) (hl.add (t := 7) (hl.add (t := 8) (hl.add (t := 9) (hl.add (t := 10) (hl.add (t := 12) (hl.add (t := 13) (hl.add (t := 22) (hl.add (t := 23) (hl.add (t := 24) (hl.add (t := 52) (hl.nil) rfl) rfl) rfl) rfl) rfl) rfl) rfl) rfl) rfl) rfl) rfl) rfl) rfl) rfl) rfl; clear hl; have hl := hl2; clear hl2
            refine then_normal ?_
            refine c_condF hl rfl ?_
            refine wp_skip ?_
            refine then_normal ?_
            refine c_seq ?_
            refine c_region ?_
            refine wl (wl_val hl rfl trivial (r_move hl rfl) ?_)
            clear hl a; intro a hl
            refine wl (wl_val hl rfl trivial (r_leq hl rfl rfl) ?_)
            clear hl a; intro a hl
            rw [show decide (c9 ≤ 0) = false from decide_eq_false (by omega)] at hl
            refine w_nil ?_
            have hl2 := hl.add (t := 0) (hl.add (t := 1) (hl.add (t := 4) (hl.add (t := 5) (hl.add (t := 6) (hl.add (t := 7) (hl.add (t := 8) (hl.add (t := 12) (hl.add (t := 13) (hl.add (t := 22) (hl.add (t := 23) (hl.add (t := 24) (hl.add (t := 57) (hl.nil) rfl) rfl) rfl) rfl) rfl) rfl) rfl) rfl) rfl) rfl) rfl) rfl) rfl; clear hl; have hl := hl2; clear hl2
            refine then_normal ?_
            refine c_condF hl rfl ?_
            refine wp_skip ?_
            refine blk_normal ?_
            refine then_normal ?_
            refine c_region ?_
            first | refine wl (wl_val hl rfl trivial (r_add hl rfl rfl (by simp only [Fits]; omega)) ?_) | refine wl (wl_val hl rfl trivial (r_addW hl rfl rfl) ?_)
            clear hl a; intro a hl
            refine wl (wl_val hl rfl trivial (r_move hl rfl) ?_)
            clear hl a; intro a hl
            refine w_nil ?_
            have hl2 := hl.add (t := 0) (hl.add (t := 1) (hl.add (t := 4) (hl.add (t := 5) (hl.add (t := 6) (hl.add (t := 7) (hl.add (t := 12) (hl.add (t := 13) (hl.add (t := 22) (hl.add (t := 23) (hl.add (t := 24) (hl.nil) rfl) rfl) rfl) rfl) rfl) rfl) rfl) rfl) rfl) rfl) rfl; clear hl; have hl := hl2; clear hl2
            refine then_normal ?_
            refine ⟨⟨u.i + 1, u.ac, u.pp, u.pc, u.Ep, u.y⟩, (by simp only; omega), ⟨by simp only; omega, by rw [inner_succ (X.at_ hx), ← hu.ac, ls_gt hpl2 hne0 (by rw [← hcm hne0]; omega)], hu.row, hu.yl, hu.yo, by simp only; omega⟩, hl.addE (t := 24) (hl.addE (t := 5) (hl.addE (t := 0) (hl.addE (t := 1) (hl.addE (t := 4) (hl.addE (t := 6) (hl.addE (t := 7) (hl.addE (t := 12) (hl.addE (t := 13) (hl.addE (t := 22) (hl.addE (t := 23) (hl.nil) rfl (by first | rfl | exact congrArg (Value.int .i64) (show (u.i : Int) + 1 = ((u.i + 1 : Nat) : Int) by omega) | (simp [List.length_append]; done))) rfl (by first | rfl | exact congrArg (Value.int .i64) (show (u.i : Int) + 1 = ((u.i + 1 : Nat) : Int) by omega) | (simp [List.length_append]; done))) rfl (by first | rfl | exact congrArg (Value.int .i64) (show (u.i : Int) + 1 = ((u.i + 1 : Nat) : Int) by omega) | (simp [List.length_append]; done))) rfl (by first | rfl | exact congrArg (Value.int .i64) (show (u.i : Int) + 1 = ((u.i + 1 : Nat) : Int) by omega) | (simp [List.length_append]; done))) rfl (by first | rfl | exact congrArg (Value.int .i64) (show (u.i : Int) + 1 = ((u.i + 1 : Nat) : Int) by omega) | (simp [List.length_append]; done))) rfl (by first | rfl | exact congrArg (Value.int .i64) (show (u.i : Int) + 1 = ((u.i + 1 : Nat) : Int) by omega) | (simp [List.length_append]; done))) rfl (by first | rfl | exact congrArg (Value.int .i64) (show (u.i : Int) + 1 = ((u.i + 1 : Nat) : Int) by omega) | (simp [List.length_append]; done))) rfl (by first | rfl | exact congrArg (Value.int .i64) (show (u.i : Int) + 1 = ((u.i + 1 : Nat) : Int) by omega) | (simp [List.length_append]; done))) rfl (by first | rfl | exact congrArg (Value.int .i64) (show (u.i : Int) + 1 = ((u.i + 1 : Nat) : Int) by omega) | (simp [List.length_append]; done))) rfl (by first | rfl | exact congrArg (Value.int .i64) (show (u.i : Int) + 1 = ((u.i + 1 : Nat) : Int) by omega) | (simp [List.length_append]; done))) rfl (by first | rfl | exact congrArg (Value.int .i64) (show (u.i : Int) + 1 = ((u.i + 1 : Nat) : Int) by omega) | (simp [List.length_append]; done)), hh.keep (by repeat (first | exact keeps_nil | apply keeps_cons (by repeat (first | exact find_head | apply find_tail | apply find_skip)) (by first  | rfl) | exact keeps_self | exact keeps_left | apply keeps_app | apply keeps_mv | apply keeps_skip))⟩
    · intro hc1
      try simp only [decide_eq_true_eq, decide_eq_false_iff_not, Bool.not_eq_true', Bool.not_eq_false', Bool.not_eq_true, Bool.not_eq_false, Bool.and_eq_true, Bool.or_eq_true, Bool.and_eq_false_iff, Bool.or_eq_false_iff, Bool.not_not, ne_eq, Int.not_lt, Int.not_le, Decidable.not_not, beq_iff_eq, bne_iff_ne] at hc1
      have hue : u.i = X.xs.length := by omega
      refine wp_exit ?_
      refine then_exit ?_
      refine then_exit ?_
      refine blk_exit ?_
      refine blk_normal ?_
      refine then_normal ?_
      refine c_region ?_
      first | refine wl (wl_val hl rfl trivial (r_add hl rfl rfl (by simp only [Fits]; omega)) ?_) | refine wl (wl_val hl rfl trivial (r_addW hl rfl rfl) ?_)
      clear hl a; intro a hl
      refine wl (wl_val hl rfl trivial (r_move hl rfl) ?_)
      clear hl a; intro a hl
      refine w_nil ?_
      have hl2 := hl.add (t := 0) (hl.add (t := 1) (hl.add (t := 4) (hl.add (t := 5) (hl.add (t := 12) (hl.add (t := 13) (hl.nil) rfl) rfl) rfl) rfl) rfl) rfl; clear hl; have hl := hl2; clear hl2
      refine then_normal ?_
      refine ⟨⟨z.i + 1, u.ac, u.pp, u.pc, u.Ep, u.y⟩, (by simp only; omega), ⟨by simp only; omega, by rw [outer_succ hcore, X.bl, ← hue]; exact hu.ac, hu.row, hu.yl, hu.yo, by have h9 := hu.m; show u.ac.2.length ≤ (z.i + 1) * X.xs.length; rw [Nat.succ_mul]; omega⟩, hl.addE (t := 13) (hl.addE (t := 5) (hl.addE (t := 0) (hl.addE (t := 1) (hl.addE (t := 4) (hl.addE (t := 12) (hl.nil) rfl (by first | rfl | exact congrArg (Value.int .i64) (show (z.i : Int) + 1 = ((z.i + 1 : Nat) : Int) by omega))) rfl (by first | rfl | exact congrArg (Value.int .i64) (show (z.i : Int) + 1 = ((z.i + 1 : Nat) : Int) by omega))) rfl (by first | rfl | exact congrArg (Value.int .i64) (show (z.i : Int) + 1 = ((z.i + 1 : Nat) : Int) by omega))) rfl (by first | rfl | exact congrArg (Value.int .i64) (show (z.i : Int) + 1 = ((z.i + 1 : Nat) : Int) by omega))) rfl (by first | rfl | exact congrArg (Value.int .i64) (show (z.i : Int) + 1 = ((z.i + 1 : Nat) : Int) by omega))) rfl (by first | rfl | exact congrArg (Value.int .i64) (show (z.i : Int) + 1 = ((z.i + 1 : Nat) : Int) by omega)), hh.keep (by repeat (first | exact keeps_nil | apply keeps_cons (by repeat (first | exact find_head | apply find_tail | apply find_skip)) (by first  | rfl) | exact keeps_self | exact keeps_left | apply keeps_app | apply keeps_mv | apply keeps_skip))⟩
  · intro hc0
    try simp only [decide_eq_true_eq, decide_eq_false_iff_not, Bool.not_eq_true', Bool.not_eq_false', Bool.not_eq_true, Bool.not_eq_false, Bool.and_eq_true, Bool.or_eq_true, Bool.and_eq_false_iff, Bool.or_eq_false_iff, Bool.not_not, ne_eq, Int.not_lt, Int.not_le, Decidable.not_not, beq_iff_eq, bne_iff_ne] at hc0
    have hze : z.i = bs.length := by omega
    have hzl := hz.ac
    rw [hze] at hzl
    refine wp_exit ?_
    refine then_exit ?_
    refine then_exit ?_
    refine blk_exit ?_
    refine then_normal ?_
    refine c_seq ?_
    refine c_region ?_
    first | refine wl (w_loadA hl hh rfl trivial agg48 rfl (by repeat (first | exact find_head | apply find_tail | apply find_skip)) (by first | (simp only [List.getElem?_cons_zero, List.getElem?_cons_succ, Value.cells, List.take_zero, List.take_succ_cons, List.take_nil, List.drop_zero, List.drop_succ_cons, List.drop_nil, List.length_cons, List.length_nil, List.cons_append, List.nil_append, List.append_nil, Nat.zero_add, Nat.add_zero, Nat.reduceAdd, Nat.reduceBEq, Nat.reduceEqDiff, Nat.ble, BEq.rfl, Bool.and_true, Bool.and_self, cond_true, beq_self_eq_true]; rfl)) (by first | rfl | (simp; done)) ?_) | refine wl (w_loadRA hl hh rfl trivial agg48 rfl hmb (by simp) hq1 rfl ?_)
    clear hl a; intro a hl
    refine wl (wl_val hl rfl trivial (r_move hl rfl) ?_)
    clear hl a; intro a hl
    refine wl (w_storeA hl hh trivial agg48 rfl rfl (by repeat (first | exact find_head | apply find_tail | apply find_skip)) (by first | rfl | (simp; done)) (by first | (simp; done) | (simp; omega)) (by first | rfl | (simp; done) | rfl) (by first | (simp only [setL, List.getElem?_cons_zero, List.getElem?_cons_succ, Value.cells, List.take_zero, List.take_succ_cons, List.take_nil, List.drop_zero, List.drop_succ_cons, List.drop_nil, List.length_cons, List.length_nil, List.cons_append, List.nil_append, List.append_nil, Nat.zero_add, Nat.add_zero, Nat.reduceAdd, Nat.reduceBEq, Nat.reduceEqDiff, Nat.ble, BEq.rfl, Bool.and_true, Bool.and_self, cond_true, beq_self_eq_true]; rfl)) ?_)
    clear hh w; intro w hh
    refine wl (wl_val hl rfl trivial (r_assign hl rfl) ?_)
    clear hl a; intro a hl
    refine w_nil ?_
    have hl2 := hl.add (t := 4) (hl.add (t := 5) (hl.nil) rfl) rfl; clear hl; have hl := hl2; clear hl2
    refine then_normal ?_
    refine wp_ret ?_
    refine f_retCT (F' := z.Ep ++ z.y.E) hl hh rfl rfl agg48 (by repeat (first | exact find_head | apply find_tail | apply find_skip)) (by first | rfl | exact arrL_length _ _ | (simp; done)) rfl (by repeat (first | exact keeps_nil | apply keeps_cons (by repeat (first | exact find_head | apply find_tail | apply find_skip)) (by first  | rfl) | exact keeps_self | exact keeps_left | apply keeps_app | apply keeps_mv | apply keeps_skip)) ?_
    rw [← hzl]
    exact ⟨z.y, z.pp, z.pc, z.Ep, hz.yo, hz.yl, hz.row, rfl, rfl⟩
end Go.Proofs.Qxb6500915aGreatDoor

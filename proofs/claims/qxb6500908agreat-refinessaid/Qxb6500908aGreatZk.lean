import Derived.Test.Qxb6500908aGreatZj
import Derived.Test.Qxb6500908aGreatZf
namespace Go.Proofs.Qxb6500908aGreat
open Go.Eng
set_option linter.unusedVariables false
set_option linter.unusedSimpArgs false
theorem bld78 : buildOk Tryz.prog 78 [(0, 1), (1, 1), (2, 1), (3, 1), (4, 1), (5, 1), (6, 64), (70, 1)] = true := by kernel_rfl
theorem zero82 : zeroOk Tryz.prog 82 (.agg #[(.int .u32 0), (.slice none 0 0), (.slice none 0 0), (.slice none 0 0), (.int .u8 0), (.int .u32 0), (.slice none 0 0), (.slice none 0 0), (.int .u16 0), (.slice none 0 0), (.slice none 0 0), (.int .u16 0), (.slice none 0 0), (.slice none 0 0), (.int .u16 0), (.slice none 0 0), (.slice none 0 0), (.int .u16 0), (.slice none 0 0), (.slice none 0 0), (.int .u16 0), (.slice none 0 0), (.slice none 0 0), (.int .u16 0), (.slice none 0 0), (.slice none 0 0), (.int .u16 0), (.slice none 0 0), (.slice none 0 0), (.int .u16 0), (.slice none 0 0), (.slice none 0 0), (.int .u16 0), (.slice none 0 0), (.slice none 0 0), (.int .u16 0), (.slice none 0 0), (.slice none 0 0), (.int .u16 0), (.slice none 0 0), (.slice none 0 0), (.int .u16 0), (.slice none 0 0), (.slice none 0 0), (.int .u16 0), (.slice none 0 0), (.slice none 0 0), (.int .u16 0), (.slice none 0 0), (.slice none 0 0), (.int .u16 0), (.slice none 0 0), (.slice none 0 0), (.int .u16 0), (.int .u16 0), (.int .u16 0), (.int .u16 0), (.int .u16 0), (.int .u16 0), (.int .u16 0), (.int .u16 0), (.int .u16 0), (.int .u16 0), (.int .u16 0), (.int .u16 0), (.int .u16 0), (.int .u16 0), (.int .u16 0), (.int .u16 0), (.int .u16 0), (.map none), (.bool false), (.slice none 0 0), (.map none), (.bool false), (.bool false), (.bool false), (.bool false), (.bool false), (.bool false), (.bool false), (.bool false), (.bool false), (.bool false), (.bool false), (.bool false), (.bool false), (.bool false), (.bool false), (.bool false), (.bool false), (.bool false), (.bool false), (.bool false), (.bool false), (.bool false), (.bool false), (.bool false), (.bool false), (.bool false), (.bool false), (.bool false), (.bool false), (.bool false), (.bool false), (.bool false), (.int .i64 0), (.bool false), (.bool false), (.int .i64 0), (.bool false)]) := by unfold zeroOk; kernel_rfl
theorem bld82 : buildOk Tryz.prog 82 [(0, 71), (71, 1), (72, 1), (73, 1), (74, 16), (90, 16), (106, 1), (107, 1), (108, 1), (109, 1), (110, 1)] = true := by kernel_rfl
theorem nk0y : ([(.slice none 0 0), (.slice none 0 0), (.int .u16 0), (.slice none 0 0), (.slice none 0 0), (.int .u16 0), (.slice none 0 0), (.slice none 0 0), (.int .u16 0), (.slice none 0 0), (.slice none 0 0), (.int .u16 0), (.slice none 0 0), (.slice none 0 0), (.int .u16 0), (.slice none 0 0), (.slice none 0 0), (.int .u16 0), (.slice none 0 0), (.slice none 0 0), (.int .u16 0), (.slice none 0 0), (.slice none 0 0), (.int .u16 0), (.slice none 0 0), (.slice none 0 0), (.int .u16 0), (.slice none 0 0), (.slice none 0 0), (.int .u16 0), (.slice none 0 0), (.slice none 0 0), (.int .u16 0), (.slice none 0 0), (.slice none 0 0), (.int .u16 0), (.slice none 0 0), (.slice none 0 0), (.int .u16 0), (.slice none 0 0), (.slice none 0 0), (.int .u16 0), (.slice none 0 0), (.slice none 0 0), (.int .u16 0), (.slice none 0 0), (.slice none 0 0), (.int .u16 0), (.int .u16 0), (.int .u16 0), (.int .u16 0), (.int .u16 0), (.int .u16 0), (.int .u16 0), (.int .u16 0), (.int .u16 0), (.int .u16 0), (.int .u16 0), (.int .u16 0), (.int .u16 0), (.int .u16 0), (.int .u16 0), (.int .u16 0), (.int .u16 0)] : List Value) = nt0.k := rfl

/-! ## the versions' numbers -/
structure VI (s : StP) : Prop where
  n : (s.vs.map Prod.fst).Nodup
  v : ∀ v, v ∈ s.vs → v.1 = 0 ∨ s.vd v.1 = some 3
  f : ¬ s.ph = 0 → ∀ v, v ∈ s.vs → ¬ v.1 = s.fid
theorem vi_setl {s : StP} (h : VI s) (hp : ¬ s.ph = 0) (c : Bool) : VI (setlP s c) := by
  refine ⟨h.n, fun v hv => ?_, fun _ => h.f hp⟩
  rcases h.v v hv with e | e
  · exact .inl e
  · refine .inr ?_
    unfold setlP
    simp only
    rw [if_neg (h.f hp v hv)]; exact e
theorem vi_tr {g : GtP} {i : InP} {s : StP} {g1 : GtP} (h : Tr g i s g1) (hg : GtI g) (hv : VI g.st) : VI s := by
  cases h with
  | start b q nt hk h0 hq =>
    have hb := hg.qv b (by rw [hq]; exact List.mem_cons_self ..)
    refine ⟨hv.n, hv.v, fun _ v hm e => ?_⟩
    have e : v.1 = b.1 := e
    rcases hv.v v hm with h9 | h9
    · exact hb.1 (by rw [← e]; exact h9)
    · rw [e, hb.2.1] at h9; cases h9
  | dec c y t h1 hw => exact vi_setl hv (by omega) c
  | cls hk hc hd =>
    by_cases h2 : g.st.ph = 2
    · have e : (clsP g.st).vs = g.st.vs ++ [(g.st.fid, g.st.fn)] := by unfold clsP; simp only; rw [if_pos h2]
      refine ⟨?_, fun v hm => ?_, fun h => absurd rfl h⟩
      · rw [e, List.map_append, List.nodup_append]
        refine ⟨hv.n, by simp, fun a ha b hb e9 => ?_⟩
        obtain ⟨v, hvm, rfl⟩ := List.mem_map.1 ha
        have hb : b = g.st.fid := by simpa using hb
        exact hv.f (by omega) v hvm (by rw [e9, hb])
      · rw [e] at hm
        rcases List.mem_append.1 hm with h9 | h9
        · exact hv.v v h9
        · rw [List.mem_singleton.1 h9]; exact .inr (hg.s.v2 h2)
    · have e : (clsP g.st).vs = g.st.vs := by unfold clsP; simp only; rw [if_neg h2]
      exact ⟨by rw [e]; exact hv.n, fun v hm => hv.v v (by rw [e] at hm; exact hm), fun h => absurd rfl h⟩
  | abq hk hq =>
    have hn := q_none hg hq
    obtain ⟨b, hb, he⟩ := qix_in hq
    have hb0 := (hg.qv b (List.mem_of_getElem? hb)).1
    refine ⟨hv.n, fun v hm => ?_, hv.f⟩
    rcases hv.v v hm with h9 | h9
    · exact .inl h9
    · refine .inr ?_
      unfold abS rfU
      simp only
      rw [if_neg (fun e => by rw [e, hn.1] at h9; cases h9)]; exact h9
  | add hk hw hh hl => exact ⟨hv.n, hv.v, hv.f⟩
  | drop hk hh => exact ⟨hv.n, hv.v, hv.f⟩
theorem vi_gin {g : GtP} {l : LdP} {i : InP} (hg : GtI g) (hs : g.st = l.d) (hd : l.dn = false) (hv : VI l.d) : VI (ginP g l i).1.2.d := by
  rcases gin_cs (i := i) hg hd with ⟨h1, _⟩ | ⟨s, g1, h1, h2⟩
  · rw [h1]; exact hv
  · have hs2 := vi_tr h1 hg (by rw [hs]; exact hv)
    rcases h2 with ⟨_, h2, _⟩ | ⟨_, _, _, h2, _⟩
    · rw [h2]; exact hs2
    · rcases h2 with h2 | h2
      · rw [h2]; exact hs2
      · rw [h2]; exact hv
theorem vi_boot {l : LdP} (hv : VI l.d) : VI (bootP l).2.d := by
  have ho : VI (opS l.d) := by
    unfold opS
    split
    · exact vi_setl (s := { l.d with ep := l.d.ep + 1 }) ⟨hv.n, hv.v, hv.f⟩ (by show ¬ l.d.ph = 0; omega) false
    · exact ⟨hv.n, hv.v, hv.f⟩
  rcases store_cs (l := rebP l) (opS l.d) rfl with ⟨_, h2, _⟩ | ⟨_, _, h2, _⟩
  · show VI (storeP (rebP l) (opS l.d)).1.d
    rw [h2]; exact ho
  · show VI (storeP (rebP l) (opS l.d)).1.d
    rcases h2 with h2 | h2
    · rw [h2]; exact ho
    · rw [h2]; exact hv
/-! ## the ledger that an input leaves -/
def LedR (l l' : LdP) : Prop := l' = l ∨ ∃ s, l' = (storeP l s).1
theorem led_adm {l : LdP} {s : StP} (h : l.dn = false) : LedR l (admitP l s).1 := by
  rcases admit_cs s h with ⟨_, h2⟩ | h2
  · exact .inl h2
  · exact .inr ⟨s, by rw [h2]⟩
theorem led_dec {g : GtP} {l : LdP} {cm : Bool} : LedR l (decP g l cm).2 := by
  unfold decP
  split
  · exact .inr ⟨_, rfl⟩
  · exact .inr ⟨_, rfl⟩
theorem led_cnf {g : GtP} {l : LdP} {b : Int} : LedR l (cnfP g l b).2 := by
  by_cases h : orB g.dn b = 65535
  · by_cases h2 : (storeP l (clsP g.st)).2 = 0
    · rw [cn_0 h rfl h2]; exact .inr ⟨_, rfl⟩
    · rw [cn_2 h rfl h2]; exact .inr ⟨_, rfl⟩
  · rw [cn_n h]; exact .inl rfl
theorem led_tx {g : GtP} {l : LdP} {s : StP} (h : l.dn = false) : LedR l (txP g l s).1.2 := by
  unfold txP
  repeat' split
  all_goals exact led_adm h
theorem led_start {g : GtP} {l : LdP} (h : l.dn = false) : LedR l (startP g l).2 := by
  unfold startP
  repeat' split
  all_goals first | exact .inl rfl | exact led_adm h
theorem led_tick {g : GtP} {l : LdP} (h : l.dn = false) : LedR l (tickP g l).2 := by
  unfold tickP
  repeat' split
  all_goals first | exact .inl rfl | exact led_start h | exact led_dec
theorem led_del {g : GtP} {l : LdP} {m : Ms} : LedR l (delvP g l m).2 := by
  unfold delvP
  repeat' split
  all_goals first | exact .inl rfl | exact led_dec | exact led_cnf
theorem led_ab {g : GtP} {l : LdP} {id : Int} (h : l.dn = false) : LedR l (abortP g l id).1.2 := by
  unfold abortP abR
  repeat' split
  all_goals first | exact .inl rfl | exact led_adm h | exact led_tx h | exact led_dec
theorem led_add {g : GtP} {l : LdP} {v : Iv} (h : l.dn = false) : LedR l (addP g l v).1.2 := by
  unfold addP
  repeat' split
  all_goals first | exact .inl rfl | exact led_tx h
theorem led_drop {g : GtP} {l : LdP} {v : Iv} (h : l.dn = false) : LedR l (dropP g l v).1.2 := by
  unfold dropP
  repeat' split
  all_goals first | exact .inl rfl | exact led_tx h
theorem led_gin {g : GtP} {l : LdP} {i : InP} (h : l.dn = false) : LedR l (ginP g l i).1.2 := by
  unfold ginP
  repeat' split
  all_goals first | exact .inl rfl | exact led_ab h | exact led_add h | exact led_drop h | exact led_tick h | exact led_del
/-- a gate that fell has used its fuse up -/
theorem gin_fu {g : GtP} {l : LdP} {i : InP} (hg : GtI g) (h : l.dn = false) (ho : (ginP g l i).1.1.off = true) : (ginP g l i).1.2.fu = 0 := by
  have hdn : (ginP g l i).1.2.dn = true := by
    rcases gin_cs (i := i) hg h with ⟨h1, h2⟩ | ⟨s, g1, h1, h2⟩
    · have := (h2.gti hg).1.on
      rw [show (ginP g l i).1.1.off = false from this] at ho; cases ho
    · rcases h2 with ⟨h2, _⟩ | ⟨_, _, h2, _⟩
      · have := (h1.gti hg).on
        rw [h2, show g1.off = false from this] at ho; cases ho
      · exact h2
  rcases led_gin (g := g) (i := i) h with e | ⟨s, e⟩
  · rw [e, h] at hdn; cases hdn
  · rw [e] at hdn ⊢
    by_cases h1 : 0 < l.fu
    · by_cases h2 : l.fu - 1 = 0
      · cases h3 : l.kp with
        | true => rw [sp_k h h1 h2 h3]
        | false => rw [sp_n h h1 h2 h3]
      · rw [sp_f h h1 h2] at hdn; rw [show l.dn = true from hdn] at h; cases h
    · rw [sp_0 h h1] at hdn; rw [show l.dn = true from hdn] at h; cases h
/-! ## the law's plain side -/
structure RfJ (l : LdP) (og : Option GtP) (x : RfX) : Prop where
  g : x.g = og
  d : x.l.d = l.d
  fl : x.l.fl = l.fl
  fu : x.l.fu = l.fu
  kp : x.l.kp = l.kp
  u : ∀ y, og = some y → x.l = l
  v : VI l.d
def rfN (g : GtP) (l : LdP) (i : InP) : RfX := ⟨some { (ginP g l i).1.1 with out := [] }, (ginP g l i).1.2⟩
theorem rf_feed {g : GtP} {l : LdP} {x : RfX} {i : InP} (hg : GtI g) (hs : g.st = l.d) (hd : l.dn = false) (h : RfJ l (some g) x) :
    (∃ gp, x.g = some gp ∧ RfS (ginP g l i).1.2.d { (ginP g l i).1.1 with out := [] } gp x.l i (ginP g l i).2.1 (ginP g l i).2.2 (ginP g l i).1.1.out ∧ rfN g l i = rfN gp x.l i) ∧ RfJ (ginP g l i).1.2 (if (ginP g l i).1.1.off then none else some { (ginP g l i).1.1 with out := [] }) (if (ginP g l i).1.1.off then rfFell (rfN g l i) else rfN g l i) := by
  have hl := h.u g rfl
  have hv := vi_gin (i := i) hg hs hd h.v
  refine ⟨⟨g, h.g, ?_, by rw [hl]⟩, ?_⟩
  · rw [hl]
    exact ⟨hg, hs, hd, by rw [hs]; exact h.v.n, rfl, rfl, rfl, rfl, rfl⟩
  · cases ho : (ginP g l i).1.1.off with
    | true =>
      have hf := gin_fu (i := i) hg hd ho
      exact ⟨rfl, rfl, rfl, by show 0 = _; rw [hf], rfl, fun y e => (by cases e), hv⟩
    | false => exact ⟨rfl, rfl, rfl, rfl, rfl, fun y _ => rfl, hv⟩
theorem bp_cg {a b : LdP} (h1 : a.d = b.d) (h2 : a.fl = b.fl) (h3 : a.fu = b.fu) (h4 : a.kp = b.kp) : bootP a = bootP b := by
  have e : rebP a = rebP b := by unfold rebP; rw [h1, h2, h3, h4]
  unfold bootP
  rw [e, h1]
/-! ## a new model -/
def du0 (vb : Nat) (p1 p2 : Option Addr) (c1 c2 : Nat) (E1 E2 : List (Nat × Obj)) : DuV := ⟨0, [⟨0, nt0⟩], p1, c1, E1, [⟨0, nt0⟩], p2, c2, E2, [], none, 0, [], 0, 0, nt0, vb, []⟩
def md0 (d : DuV) : MdV := ⟨d, false, [], none, 0, [], none, [], fun _ => false, fun _ => false, 0, false, false, 0, false⟩
theorem fill78z {p1 p2 : Option Addr} {c1 c2 vb : Nat} : fillL [(0, 1), (1, 1), (2, 1), (3, 1), (4, 1), (5, 1), (6, 64), (70, 1)] [(.int .u32 0), (.slice none 0 0), (.slice none 0 0), (.slice none 0 0), (.int .u8 0), (.int .u32 0), (.slice none 0 0), (.slice none 0 0), (.int .u16 0), (.slice none 0 0), (.slice none 0 0), (.int .u16 0), (.slice none 0 0), (.slice none 0 0), (.int .u16 0), (.slice none 0 0), (.slice none 0 0), (.int .u16 0), (.slice none 0 0), (.slice none 0 0), (.int .u16 0), (.slice none 0 0), (.slice none 0 0), (.int .u16 0), (.slice none 0 0), (.slice none 0 0), (.int .u16 0), (.slice none 0 0), (.slice none 0 0), (.int .u16 0), (.slice none 0 0), (.slice none 0 0), (.int .u16 0), (.slice none 0 0), (.slice none 0 0), (.int .u16 0), (.slice none 0 0), (.slice none 0 0), (.int .u16 0), (.slice none 0 0), (.slice none 0 0), (.int .u16 0), (.slice none 0 0), (.slice none 0 0), (.int .u16 0), (.slice none 0 0), (.slice none 0 0), (.int .u16 0), (.slice none 0 0), (.slice none 0 0), (.int .u16 0), (.slice none 0 0), (.slice none 0 0), (.int .u16 0), (.int .u16 0), (.int .u16 0), (.int .u16 0), (.int .u16 0), (.int .u16 0), (.int .u16 0), (.int .u16 0), (.int .u16 0), (.int .u16 0), (.int .u16 0), (.int .u16 0), (.int .u16 0), (.int .u16 0), (.int .u16 0), (.int .u16 0), (.int .u16 0), (.map none)] [(1, .slice p1 1 c1), (2, .slice p2 1 c2), (7, .map (some vb))] = some (DuV.c (du0 vb p1 p2 c1 c2 [] [])) := rfl
theorem fill82z {d : DuV} : fillL [(0, 71), (71, 1), (72, 1), (73, 1), (74, 16), (90, 16), (106, 1), (107, 1), (108, 1), (109, 1), (110, 1)] [(.int .u32 0), (.slice none 0 0), (.slice none 0 0), (.slice none 0 0), (.int .u8 0), (.int .u32 0), (.slice none 0 0), (.slice none 0 0), (.int .u16 0), (.slice none 0 0), (.slice none 0 0), (.int .u16 0), (.slice none 0 0), (.slice none 0 0), (.int .u16 0), (.slice none 0 0), (.slice none 0 0), (.int .u16 0), (.slice none 0 0), (.slice none 0 0), (.int .u16 0), (.slice none 0 0), (.slice none 0 0), (.int .u16 0), (.slice none 0 0), (.slice none 0 0), (.int .u16 0), (.slice none 0 0), (.slice none 0 0), (.int .u16 0), (.slice none 0 0), (.slice none 0 0), (.int .u16 0), (.slice none 0 0), (.slice none 0 0), (.int .u16 0), (.slice none 0 0), (.slice none 0 0), (.int .u16 0), (.slice none 0 0), (.slice none 0 0), (.int .u16 0), (.slice none 0 0), (.slice none 0 0), (.int .u16 0), (.slice none 0 0), (.slice none 0 0), (.int .u16 0), (.slice none 0 0), (.slice none 0 0), (.int .u16 0), (.slice none 0 0), (.slice none 0 0), (.int .u16 0), (.int .u16 0), (.int .u16 0), (.int .u16 0), (.int .u16 0), (.int .u16 0), (.int .u16 0), (.int .u16 0), (.int .u16 0), (.int .u16 0), (.int .u16 0), (.int .u16 0), (.int .u16 0), (.int .u16 0), (.int .u16 0), (.int .u16 0), (.int .u16 0), (.map none), (.bool false), (.slice none 0 0), (.map none), (.bool false), (.bool false), (.bool false), (.bool false), (.bool false), (.bool false), (.bool false), (.bool false), (.bool false), (.bool false), (.bool false), (.bool false), (.bool false), (.bool false), (.bool false), (.bool false), (.bool false), (.bool false), (.bool false), (.bool false), (.bool false), (.bool false), (.bool false), (.bool false), (.bool false), (.bool false), (.bool false), (.bool false), (.bool false), (.bool false), (.bool false), (.bool false), (.int .i64 0), (.bool false), (.bool false), (.int .i64 0), (.bool false)] [(0, .agg ⟨d.c⟩)] = some (MdV.c (md0 d)) := by
  rw [show ([(.int .u32 0), (.slice none 0 0), (.slice none 0 0), (.slice none 0 0), (.int .u8 0), (.int .u32 0), (.slice none 0 0), (.slice none 0 0), (.int .u16 0), (.slice none 0 0), (.slice none 0 0), (.int .u16 0), (.slice none 0 0), (.slice none 0 0), (.int .u16 0), (.slice none 0 0), (.slice none 0 0), (.int .u16 0), (.slice none 0 0), (.slice none 0 0), (.int .u16 0), (.slice none 0 0), (.slice none 0 0), (.int .u16 0), (.slice none 0 0), (.slice none 0 0), (.int .u16 0), (.slice none 0 0), (.slice none 0 0), (.int .u16 0), (.slice none 0 0), (.slice none 0 0), (.int .u16 0), (.slice none 0 0), (.slice none 0 0), (.int .u16 0), (.slice none 0 0), (.slice none 0 0), (.int .u16 0), (.slice none 0 0), (.slice none 0 0), (.int .u16 0), (.slice none 0 0), (.slice none 0 0), (.int .u16 0), (.slice none 0 0), (.slice none 0 0), (.int .u16 0), (.slice none 0 0), (.slice none 0 0), (.int .u16 0), (.slice none 0 0), (.slice none 0 0), (.int .u16 0), (.int .u16 0), (.int .u16 0), (.int .u16 0), (.int .u16 0), (.int .u16 0), (.int .u16 0), (.int .u16 0), (.int .u16 0), (.int .u16 0), (.int .u16 0), (.int .u16 0), (.int .u16 0), (.int .u16 0), (.int .u16 0), (.int .u16 0), (.int .u16 0), (.map none), (.bool false), (.slice none 0 0), (.map none), (.bool false), (.bool false), (.bool false), (.bool false), (.bool false), (.bool false), (.bool false), (.bool false), (.bool false), (.bool false), (.bool false), (.bool false), (.bool false), (.bool false), (.bool false), (.bool false), (.bool false), (.bool false), (.bool false), (.bool false), (.bool false), (.bool false), (.bool false), (.bool false), (.bool false), (.bool false), (.bool false), (.bool false), (.bool false), (.bool false), (.bool false), (.bool false), (.int .i64 0), (.bool false), (.bool false), (.int .i64 0), (.bool false)] : List Value) = [(.int .u32 0), (.slice none 0 0), (.slice none 0 0), (.slice none 0 0), (.int .u8 0), (.int .u32 0), (.slice none 0 0), (.slice none 0 0), (.int .u16 0), (.slice none 0 0), (.slice none 0 0), (.int .u16 0), (.slice none 0 0), (.slice none 0 0), (.int .u16 0), (.slice none 0 0), (.slice none 0 0), (.int .u16 0), (.slice none 0 0), (.slice none 0 0), (.int .u16 0), (.slice none 0 0), (.slice none 0 0), (.int .u16 0), (.slice none 0 0), (.slice none 0 0), (.int .u16 0), (.slice none 0 0), (.slice none 0 0), (.int .u16 0), (.slice none 0 0), (.slice none 0 0), (.int .u16 0), (.slice none 0 0), (.slice none 0 0), (.int .u16 0), (.slice none 0 0), (.slice none 0 0), (.int .u16 0), (.slice none 0 0), (.slice none 0 0), (.int .u16 0), (.slice none 0 0), (.slice none 0 0), (.int .u16 0), (.slice none 0 0), (.slice none 0 0), (.int .u16 0), (.slice none 0 0), (.slice none 0 0), (.int .u16 0), (.slice none 0 0), (.slice none 0 0), (.int .u16 0), (.int .u16 0), (.int .u16 0), (.int .u16 0), (.int .u16 0), (.int .u16 0), (.int .u16 0), (.int .u16 0), (.int .u16 0), (.int .u16 0), (.int .u16 0), (.int .u16 0), (.int .u16 0), (.int .u16 0), (.int .u16 0), (.int .u16 0), (.int .u16 0), (.map none)] ++ (md0 d).t from rfl, fillS _ _ 0 0 71 (.agg ⟨d.c⟩) _ rfl (duc_len d) (by rw [List.length_append]; show 0 + 71 ≤ 71 + 40; omega)]
  rw [show (Value.agg ⟨d.c⟩).cells.toList = d.c from rfl, set_front (by rw [duc_len]; rfl)]
  rfl
theorem mdc_one (m : MdV) : m.c.all (·.oneCell') = true := by
  unfold MdV.c
  rw [List.all_append, duc_one]
  rfl
theorem mdc_all (m : MdV) : (m.c.drop 0).take 111 = m.c := by rw [List.drop_zero, ← mdc_len m, List.take_length]
theorem du0_E (vb : Nat) (p1 p2 : Option Addr) (c1 c2 : Nat) (E1 E2 : List (Nat × Obj)) : MdV.c (md0 (du0 vb p1 p2 c1 c2 [] [])) = MdV.c (md0 (du0 vb p1 p2 c1 c2 E1 E2)) := rfl
theorem du0_ok {p1 p2 : Option Addr} {c1 c2 vb : Nat} {E1 E2 : List (Nat × Obj)} (h1 : Row (.slice p1 1 c1) 1 (fl idc [⟨0, nt0⟩]) 1 36 E1) (h2 : Row (.slice p2 1 c2) 1 (fl ntc [⟨0, nt0⟩]) 64 66 E2) : (du0 vb p1 p2 c1 c2 E1 E2).ok [] :=
  ⟨by simp [du0], h1, h2, rfl, fun x hx => by rw [List.mem_singleton.1 hx]; exact ⟨nt0_ok [], by simp⟩, by simp [du0], by simp [du0], Row.nil _ _, fun x hx => (by cases hx), Nat.zero_le _, by simp [du0], by simp [du0], nt0_ok [], fun i v h => (by cases h), List.nodup_nil⟩
theorem md0_d {d : DuV} (h : d.ok []) (hp : d.pl = sp0) : MdD [] (md0 d) lp0 := ⟨h, hp, rfl, rfl, rfl, rfl, by simp [md0]⟩
theorem du0_pl (vb : Nat) (p1 p2 : Option Addr) (c1 c2 : Nat) (E1 E2 : List (Nat × Obj)) : (du0 vb p1 p2 c1 c2 E1 E2).pl = sp0 := rfl


attribute [local irreducible] NtV.k StV.c LdV.c StV.E GtV.c GtV.t DuV.c DuV.E MdV.c MdV.t orB sh1 WoV.c wst postP nt0

set_option maxHeartbeats 4000000 in
theorem mnew_spec : Sp Tryz.prog 6 #[] [] (fun v F' => ∃ (mb : Nat) (m : MdV), MdD [] m lp0 ∧ v = .pointer (some ⟨mb, 0, none⟩) ∧ F' = (mb, C m.c 82) :: (m.d.E ++ (m.qE ++ m.rE))) := by
  refine f_enter (args := []) Tryz.func6 rfl Tryz.ntmps6 rfl ?_
  intro w0 w a hpre hl hh
  simp only [slotsFrom, Nat.reduceAdd] at hl
  refine c_seq ?_
  refine c_region ?_
  refine wl (wl_val hl rfl trivial (r_assign hl rfl) ?_)
  clear hl a; intro a hl
  refine w_nil ?_
  have hl2 := hl.nil; clear hl; have hl := hl2; clear hl2
  refine then_normal ?_
  refine c_seq ?_
  refine c_region ?_
  refine wl (w_buildSlice hl hh rfl trivial app72 zero36 rfl rfl rfl rfl rfl (by simp only [fillL, arrPl, List.range_succ, List.range_zero, List.map_cons, List.map_nil, List.map_append, List.nil_append, List.replicate_succ, List.replicate_zero, List.flatten_cons, List.flatten_nil, Nat.zero_mul, Nat.mul_one, Nat.one_mul, Nat.reduceMul, setL, List.getElem?_cons_zero, List.getElem?_cons_succ, Value.cells, List.take_zero, List.take_succ_cons, List.take_nil, List.drop_zero, List.drop_succ_cons, List.drop_nil, List.length_cons, List.length_nil, List.cons_append, List.nil_append, List.append_nil, Nat.zero_add, Nat.add_zero, Nat.reduceAdd, Nat.reduceBEq, Nat.reduceEqDiff, Nat.ble, BEq.rfl, Bool.and_true, Bool.and_self, cond_true, beq_self_eq_true]; rfl) ?_)
  clear hl hh a w; intro k1 a w hl hh
  refine wl (wl_val hl rfl trivial (r_build (cs := nt0.k) hl rfl zero66 bld66 (by rw [← nk0y]; rfl)) ?_)
  clear hl a; intro a hl
  refine wl (w_buildSlice hl hh rfl trivial app73 zero66 rfl rfl rfl rfl rfl (fill1 rfl (ntk_len _)) ?_)
  clear hl hh a w; intro k3 a w hl hh
  refine wl (w_makeMap (kInt .u32) hl hh rfl trivial ?_)
  clear hl hh a w; intro k4 a w hl hh
  refine wl (wl_val hl rfl trivial (r_build hl rfl zero78 bld78 fill78z) ?_)
  clear hl a; intro a hl
  refine wl (wl_val hl rfl trivial (r_build hl rfl zero82 bld82 fill82z) ?_)
  clear hl a; intro a hl
  refine wl (w_box hl hh rfl trivial rfl rfl ?_)
  clear hl hh a w; intro k7 a w hl hh
  refine wl (wl_val hl rfl trivial (r_assign hl rfl) ?_)
  clear hl a; intro a hl
  refine w_nil ?_
  have hl2 := hl.add (t := 0) (hl.nil) rfl; clear hl; have hl := hl2; clear hl2
  refine then_normal ?_
  refine wp_ret ?_
  refine f_ret1 (F' := (k7, C (MdV.c (md0 (du0 k4 (some ⟨k1, 0, none⟩) (some ⟨k3, 0, none⟩) 1 1 [] []))) 82) :: ((k1, C [.int .u32 0] 36) :: ((k3, C nt0.k 66) :: [(k4, MO (kInt .u32) [])]))) hl hh rfl rfl (by repeat (first | exact keeps_nil | apply keeps_cons (by repeat (first | exact find_head | apply find_tail | apply find_skip)) (by first  | rfl) | exact keeps_self | exact keeps_left | apply keeps_app | apply keeps_mv | apply keeps_skip)) ?_
  refine ⟨k7, md0 (du0 k4 (some ⟨k1, 0, none⟩) (some ⟨k3, 0, none⟩) 1 1 [(k1, C [.int .u32 0] 36)] [(k3, C nt0.k 66)]), md0_d (du0_ok (.inr ⟨k1, 1, [], rfl, rfl, rfl, Nat.le_refl _, rfl⟩) (.inr ⟨k3, 1, [], rfl, by rw [fl_sing]; exact ntk_len _, by rw [fl_sing, List.append_nil]; exact ntk_len _, Nat.le_refl _, by rw [fl_sing, List.append_nil]; rfl⟩)) (du0_pl ..), rfl, ?_⟩
  rw [du0_E k4 (some ⟨k1, 0, none⟩) (some ⟨k3, 0, none⟩) 1 1 [(k1, C [.int .u32 0] 36)] [(k3, C nt0.k 66)], DuV.E_eq]; rfl
end Go.Proofs.Qxb6500908aGreat

import Derived.Test.Qxb6500907aN2radd
import Derived.Test.Qxb6500907aN2rdel
import Derived.Test.Qxb6500907aN2ains
import Derived.Test.Qxb6500907aN2arem
import Derived.Test.Qxb6500907aN2link
import Derived.Test.Qxb6500907aN2iface
namespace Go.Proofs.Qxb6500907a
open Go.Eng
set_option linter.unusedVariables false
set_option linter.unusedSimpArgs false

theorem ck_facts {c : Ch} (ok : c.ok) (h : ckF c = 0) : c.kd < 6 ∧ c.dv < 16 ∧ ((c.kd = 4 ∨ c.kd = 5) → c.pr < 16) := by
  unfold ckF at h
  by_cases h1 : 6 ≤ c.kd
  · rw [if_pos h1] at h; omega
  rw [if_neg h1] at h
  by_cases h2 : 16 ≤ c.dv
  · rw [if_pos h2] at h; omega
  rw [if_neg h2] at h
  refine ⟨by omega, by omega, fun hk => ?_⟩
  rw [if_neg (by omega), if_neg (by omega), if_neg (by omega)] at h
  by_cases h3 : 16 ≤ c.pr
  · rw [if_pos ⟨hk, h3⟩] at h; omega
  · omega
def RtOk (r : Rt) : Prop := (0 ≤ r.a ∧ r.a ≤ 255) ∧ (0 ≤ r.l ∧ r.l ≤ 255) ∧ (0 ≤ r.v ∧ r.v ≤ 255)
def RlOk (r : Rl) : Prop := (0 ≤ r.a ∧ r.a ≤ 255) ∧ (0 ≤ r.l ∧ r.l ≤ 255) ∧ (0 ≤ r.c ∧ r.c ≤ 255)
/-- a network as the layer keeps it -/
structure POk (P : Pl) : Prop where
  srt : ∀ d, d < 16 → Srt (P.rs d)
  rr : ∀ d, d < 16 → ∀ r, r ∈ P.rs d → RtOk r
  ar : ∀ d, d < 16 → ∀ r, r ∈ P.al d → RlOk r
  len : ∀ d, d < 16 → (P.rs d).length + (P.al d).length ≤ 64
  lnk : ∀ d, d < 16 → 0 ≤ P.link d ∧ P.link d ≤ 65535
  ifc : ∀ d, d < 16 → 0 ≤ P.ifc d ∧ P.ifc d ≤ 65535
theorem srt_pw (l : List Rt) : Srt l ↔ l.Pairwise fun x y => lessR x y.a y.l := by
  rw [List.pairwise_iff_getElem]
  constructor
  · intro h i j hi hj hij
    exact h i j l[i] l[j] hij (List.getElem?_eq_getElem hi) (List.getElem?_eq_getElem hj)
  · intro h i j x y hij hx hy
    obtain ⟨hi, rfl⟩ := List.getElem?_eq_some_iff.1 hx
    obtain ⟨hj, rfl⟩ := List.getElem?_eq_some_iff.1 hy
    exact h i j hi hj hij
theorem fp_spec {a n : Int} : ∀ {l : List Rt}, (l.Pairwise fun x y => lessR x y.a y.l) → (∀ j r, j < fp l a n → l[j]? = some r → lessR r a n) ∧ (∀ j r, fp l a n ≤ j → l[j]? = some r → ¬ lessR r a n)
  | [], _ => ⟨fun j r _ h => by simp at h, fun j r _ h => by simp at h⟩
  | x :: l, h => by
    rw [List.pairwise_cons] at h
    obtain ⟨h1, h2⟩ := fp_spec (a := a) (n := n) h.2
    by_cases hx : lessR x a n
    · have e : fp (x :: l) a n = fp l a n + 1 := by unfold fp; rw [List.countP_cons_of_pos (by simpa using hx)]
      rw [e]
      refine ⟨fun j r hj hr => ?_, fun j r hj hr => ?_⟩
      · cases j with
        | zero => simp at hr; subst hr; exact hx
        | succ j => exact h1 j r (by omega) (by simpa using hr)
      · cases j with
        | zero => omega
        | succ j => exact h2 j r (by omega) (by simpa using hr)
    · have hall : ∀ y, y ∈ l → ¬ lessR y a n := fun y hy hl => hx (lessR_trans (h.1 y hy) hl)
      have e : fp (x :: l) a n = 0 := by
        unfold fp
        rw [List.countP_eq_zero]
        intro y hy
        rcases List.mem_cons.1 hy with rfl | hy
        · simpa using hx
        · simpa using hall y hy
      rw [e]
      refine ⟨fun j r hj => by omega, fun j r _ hr => ?_⟩
      rcases List.mem_cons.1 (List.mem_of_getElem? hr) with rfl | hy
      · exact hx
      · exact hall r hy
theorem ins_srt {l : List Rt} {r : Rt} (h : Srt l) (hf : fnd l r.a r.l = false) : Srt (l.take (fp l r.a r.l) ++ r :: l.drop (fp l r.a r.l)) := by
  have hp := (srt_pw l).1 h
  obtain ⟨h1, h2⟩ := fp_spec (a := r.a) (n := r.l) hp
  have hlt : ∀ x, x ∈ l.take (fp l r.a r.l) → lessR x r.a r.l := fun x hx => by
    obtain ⟨j, hj, rfl⟩ := List.getElem_of_mem hx
    rw [List.length_take] at hj
    exact h1 j _ (by omega) (by rw [List.getElem_take, List.getElem?_eq_getElem])
  have hgt : ∀ y, y ∈ l.drop (fp l r.a r.l) → lessR r y.a y.l := fun y hy => by
    obtain ⟨j, hj, rfl⟩ := List.getElem_of_mem hy
    rw [List.length_drop] at hj
    have hyj : l[fp l r.a r.l + j]? = some (l.drop (fp l r.a r.l))[j] := by rw [List.getElem_drop, List.getElem?_eq_getElem]
    have hn := h2 _ _ (Nat.le_add_right _ j) hyj
    have hne : ¬ ((l.drop (fp l r.a r.l))[j].a = r.a ∧ (l.drop (fp l r.a r.l))[j].l = r.l) := by
      intro e
      by_cases hj0 : j = 0
      · subst hj0
        rw [Nat.add_zero] at hyj
        rw [fnd_some rfl hyj] at hf
        exact (of_decide_eq_false hf) e
      · obtain ⟨z, hz⟩ : ∃ z, l[fp l r.a r.l]? = some z := ⟨_, List.getElem?_eq_getElem (by omega)⟩
        have h3 := h _ _ z _ (show fp l r.a r.l < fp l r.a r.l + j by omega) hz hyj
        rw [e.1, e.2] at h3
        exact h2 _ _ (Nat.le_refl _) hz h3
    generalize (l.drop (fp l r.a r.l))[j] = y at hn hne
    unfold lessR at *
    omega
  rw [srt_pw, List.pairwise_append, List.pairwise_cons]
  exact ⟨hp.sublist (List.take_sublist _ _), ⟨hgt, hp.sublist (List.drop_sublist _ _)⟩, fun x hx y hy => by
    rcases List.mem_cons.1 hy with rfl | hy
    · exact hlt x hx
    · exact lessR_trans (hlt x hx) (hgt y hy)⟩
theorem del_sub {α : Type} (l : List α) (i : Nat) : (l.take i ++ l.drop (i + 1)).Sublist l := by
  rw [← List.eraseIdx_eq_take_drop_succ]; exact List.eraseIdx_sublist _ _
theorem del_srt {l : List Rt} (h : Srt l) (i : Nat) : Srt (l.take i ++ l.drop (i + 1)) := (srt_pw _).2 (((srt_pw _).1 h).sublist (del_sub l i))
theorem ins_mem {α : Type} {l : List α} {i : Nat} {r x : α} (h : x ∈ l.take i ++ r :: l.drop i) : x = r ∨ x ∈ l := by
  rcases List.mem_append.1 h with h | h
  · exact .inr (List.mem_of_mem_take h)
  · rcases List.mem_cons.1 h with h | h
    · exact .inl h
    · exact .inr (List.mem_of_mem_drop h)
theorem ins_length {α : Type} {l : List α} {i : Nat} {r : α} (h : i ≤ l.length) : (l.take i ++ r :: l.drop i).length = l.length + 1 := by rw [List.length_append, List.length_cons, List.length_take, List.length_drop]; omega
theorem setF_rng (m b : Int) (up : Bool) : 0 ≤ setF m b up ∧ setF m b up ≤ 65535 := by
  unfold setF
  split
  · have := fits_wrap .u16 ((BitVec.ofInt 16 m ||| BitVec.ofInt 16 (shlB b)).toNat : Int)
    simp only [Fits] at this; exact this
  · have := fits_wrap .u16 ((BitVec.ofInt 16 m &&& ~~~ BitVec.ofInt 16 (shlB b)).toNat : Int)
    simp only [Fits] at this; exact this
theorem POk.insR {P : Pl} (h : POk P) {d : Nat} (hd : d < 16) {r : Rt} (hr : RtOk r) (hf : fnd (P.rs d) r.a r.l = false) (hn : ¬ 64 ≤ (P.rs d).length + (P.al d).length) : POk (insR P d r) := by
  have e : ∀ j, (Qxb6500907a.insR P d r).rs j = if j = d then (P.rs d).take (fp (P.rs d) r.a r.l) ++ r :: (P.rs d).drop (fp (P.rs d) r.a r.l) else P.rs j := fun j => rfl
  refine ⟨fun j hj => ?_, fun j hj x hx => ?_, h.ar, fun j hj => ?_, h.lnk, h.ifc⟩
  · rw [e]; split
    · exact ins_srt (h.srt d hd) hf
    · exact h.srt j hj
  · rw [e] at hx; split at hx
    · rcases ins_mem hx with rfl | hx
      · exact hr
      · exact h.rr d hd x hx
    · exact h.rr j hj x hx
  · rw [e]; split
    · rename_i ej; subst ej
      have := h.len j hj
      rw [ins_length (fp_le _ _ _)]
      show (P.rs j).length + 1 + (P.al j).length ≤ 64
      omega
    · exact h.len j hj
theorem POk.delR {P : Pl} (h : POk P) {d : Nat} (hd : d < 16) (i : Nat) : POk (delR P d i) := by
  have e : ∀ j, (Qxb6500907a.delR P d i).rs j = if j = d then (P.rs d).take i ++ (P.rs d).drop (i + 1) else P.rs j := fun j => rfl
  refine ⟨fun j hj => ?_, fun j hj x hx => ?_, h.ar, fun j hj => ?_, h.lnk, h.ifc⟩
  · rw [e]; split
    · exact del_srt (h.srt d hd) i
    · exact h.srt j hj
  · rw [e] at hx; split at hx
    · exact h.rr d hd x ((del_sub _ _).subset hx)
    · exact h.rr j hj x hx
  · rw [e]; split
    · rename_i ej; subst ej
      have := h.len j hj
      have := (del_sub (P.rs j) i).length_le
      show ((P.rs j).take i ++ (P.rs j).drop (i + 1)).length + (P.al j).length ≤ 64
      omega
    · exact h.len j hj
theorem POk.insA {P : Pl} (h : POk P) {d : Nat} (hd : d < 16) {i : Nat} {r : Rl} (hr : RlOk r) (hi : i ≤ (P.al d).length) (hn : ¬ 64 ≤ (P.rs d).length + (P.al d).length) : POk (insA P d i r) := by
  have e : ∀ j, (Qxb6500907a.insA P d i r).al j = if j = d then (P.al d).take i ++ r :: (P.al d).drop i else P.al j := fun j => rfl
  refine ⟨h.srt, h.rr, fun j hj x hx => ?_, fun j hj => ?_, h.lnk, h.ifc⟩
  · rw [e] at hx; split at hx
    · rcases ins_mem hx with rfl | hx
      · exact hr
      · exact h.ar d hd x hx
    · exact h.ar j hj x hx
  · rw [e]; split
    · rename_i ej; subst ej
      have := h.len j hj
      rw [ins_length hi]
      show (P.rs j).length + ((P.al j).length + 1) ≤ 64
      omega
    · exact h.len j hj
theorem POk.delA {P : Pl} (h : POk P) {d : Nat} (hd : d < 16) (i : Nat) : POk (delA P d i) := by
  have e : ∀ j, (Qxb6500907a.delA P d i).al j = if j = d then (P.al d).take i ++ (P.al d).drop (i + 1) else P.al j := fun j => rfl
  refine ⟨h.srt, h.rr, fun j hj x hx => ?_, fun j hj => ?_, h.lnk, h.ifc⟩
  · rw [e] at hx; split at hx
    · exact h.ar d hd x ((del_sub _ _).subset hx)
    · exact h.ar j hj x hx
  · rw [e]; split
    · rename_i ej; subst ej
      have := h.len j hj
      have := (del_sub (P.al j) i).length_le
      show (P.rs j).length + ((P.al j).take i ++ (P.al j).drop (i + 1)).length ≤ 64
      omega
    · exact h.len j hj
theorem POk.lnk' {P : Pl} (h : POk P) (d : Nat) (m b : Int) (up : Bool) : POk (Qxb6500907a.lnk P d (setF m b up)) := by
  refine ⟨h.srt, h.rr, h.ar, h.len, fun j hj => ?_, h.ifc⟩
  show 0 ≤ upd P.link d _ j ∧ upd P.link d _ j ≤ 65535
  unfold upd; split
  · exact setF_rng _ _ _
  · exact h.lnk j hj
theorem POk.ifc' {P : Pl} (h : POk P) (d : Nat) (m b : Int) (up : Bool) : POk (ifcP P d (setF m b up)) := by
  refine ⟨h.srt, h.rr, h.ar, h.len, h.lnk, fun j hj => ?_⟩
  show 0 ≤ upd P.ifc d _ j ∧ upd P.ifc d _ j ≤ 65535
  unfold upd; split
  · exact setF_rng _ _ _
  · exact h.ifc j hj
theorem u0_ok {c : Ch} (ok : c.ok) : (u0 c).ok := ⟨by simp [u0], ok.dv, by simp [u0], by simp [u0], by simp [u0], by simp [u0], by simp [u0], by simp [u0], by simp [u0], by simp [u0]⟩
theorem POk.doP {P : Pl} (h : POk P) {c : Ch} (ok : c.ok) (hck : ckF c = 0) : POk (doP P c).1 ∧ (Qxb6500907a.doP P c).2.1.ok := by
  obtain ⟨f1, f2, f3⟩ := ck_facts ok hck
  have hd : c.dv.toNat < 16 := by have := ok.dv; omega
  have z : (0 : Int) ≤ 0 ∧ (0 : Int) ≤ 255 := by decide
  unfold Qxb6500907a.doP
  split
  · split
    · exact ⟨h, u0_ok ok⟩
    · rename_i hf
      split
      · exact ⟨h, u0_ok ok⟩
      · rename_i hn
        exact ⟨h.insR hd ⟨ok.ra, ok.rl, ok.via⟩ (by simpa using hf) hn, ⟨by simp, ok.dv, z, z, ok.ra, ok.rl, z, z, z, z⟩⟩
  · split
    · split
      · split
        · rename_i r hr
          have := h.rr _ hd r (List.mem_of_getElem? hr)
          exact ⟨h.delR hd _, ⟨z, ok.dv, z, z, this.1, this.2.1, this.2.2, z, z, z⟩⟩
        · exact ⟨h, u0_ok ok⟩
      · exact ⟨h, u0_ok ok⟩
    · split
      · split
        · exact ⟨h, u0_ok ok⟩
        · rename_i hi
          split
          · exact ⟨h, u0_ok ok⟩
          · rename_i hn
            exact ⟨h.insA hd ⟨ok.da, ok.dl, ok.cl⟩ (by omega) hn, ⟨by simp, ok.dv, z, ok.ix, z, z, z, z, z, z⟩⟩
      · split
        · split
          · rename_i r hr
            have := h.ar _ hd r (List.mem_of_getElem? hr)
            exact ⟨h.delA hd _, ⟨by simp, ok.dv, z, ok.ix, z, z, z, this.1, this.2.1, this.2.2⟩⟩
          · exact ⟨h, u0_ok ok⟩
        · split
          · exact ⟨(h.lnk' _ _ _ _).lnk' _ _ _ _, ⟨by simp, ok.dv, ok.pr, z, z, z, z, z, z, z⟩⟩
          · split
            · exact ⟨h.ifc' _ _ _ _, ⟨by simp, ok.dv, ok.pr, z, z, z, z, z, z, z⟩⟩
            · exact ⟨h, u0_ok ok⟩
theorem do_spec (c : Ch) (ok : c.ok) (hck : ckF c = 0) (eb d : Nat) (hdv : c.dv = (d : Int)) (rv av : Nat → Value) (P : Pl) (ow : Nat → Bool) (Zd fd : List (Nat × Obj)) (hP : POk P) (hI : DevI rv av P ow d eb Zd fd) (hZD : ∀ x, x ∈ Zd → x.1 ∉ ((eb, C (arrL 80 (edF rv av P ow)) 133) :: fd).map Prod.fst) :
    SpK Try.prog 58 #[.pointer (some ⟨eb, 0, none⟩), .agg ⟨c.vals⟩] (Mem Zd) ((eb, C (arrL 80 (edF rv av P ow)) 133) :: fd) (DoR eb rv av ow P c d) := by
  obtain ⟨f1, f2, f3⟩ := ck_facts ok hck
  obtain ⟨kd, dv, pr, ix, up, ra, rl, via, pm, da, dl, cl⟩ := c
  simp only at hdv f1 f2 f3
  subst hdv
  have hd : d < 16 := by omega
  have hl := hP.len d hd
  have hrr : ∀ r, r ∈ P.rs d → 0 ≤ r.a ∧ r.a ≤ 255 ∧ 0 ≤ r.l ∧ r.l ≤ 255 := fun r hr => by
    have := hP.rr d hd r hr
    exact ⟨this.1.1, this.1.2, this.2.1.1, this.2.1.2⟩
  have h0 := ok.kd.1
  simp only at h0
  have hk : kd = 0 ∨ kd = 1 ∨ kd = 2 ∨ kd = 3 ∨ kd = 4 ∨ kd = 5 := by omega
  rcases hk with rfl | rfl | rfl | rfl | rfl | rfl
  · exact do_radd eb d rv av P ow Zd fd hd hI hZD (by omega) (by omega) pr ix up ra rl via pm da dl cl ok.ra ok.rl (hP.srt d hd) hrr
  · exact do_rdel eb d rv av P ow Zd fd hd hI hZD (by omega) (by omega) pr ix up ra rl via pm da dl cl ok.ra ok.rl (hP.srt d hd) hrr
  · obtain ⟨xi, rfl⟩ := Int.eq_ofNat_of_zero_le ok.ix.1
    have := ok.ix.2
    exact do_ains eb d rv av P ow Zd fd hd hI hZD (by omega) (by omega) pr xi up ra rl via pm da dl cl (by simp only at this; omega)
  · obtain ⟨xi, rfl⟩ := Int.eq_ofNat_of_zero_le ok.ix.1
    have := ok.ix.2
    exact do_arem eb d rv av P ow Zd fd hd hI hZD (by omega) (by omega) pr xi up ra rl via pm da dl cl (by simp only at this; omega)
  · obtain ⟨pn, rfl⟩ := Int.eq_ofNat_of_zero_le ok.pr.1
    have := f3 (.inl rfl)
    exact do_link eb d rv av P ow Zd fd hd hI hZD (by omega) (by omega) pn ix up ra rl via pm da dl cl (by omega)
  · exact do_iface eb d rv av P ow Zd fd hd hI hZD (by omega) (by omega) pr ix up ra rl via pm da dl cl ok.pr
def chk (cs : List Ch) : Prop := cs.length ≤ 128 ∧ ∀ c, c ∈ cs → ckF c = 0
theorem ckF_5 (c : Ch) {k : Int} (h : k = ckF c) : k = 0 ∨ 5 ≤ k := by
  subst h
  unfold ckF
  repeat' split
  all_goals omega


set_option maxHeartbeats 1000000 in
theorem check_ro (idv : Int) (p : Option Addr) (cap : Nat) (cs : List Ch) (E : List (Nat × Obj)) (hR : Row (.slice p cs.length cap) cs.length (chs cs) 12 57 E) (hok : ∀ c, c ∈ cs → c.ok) (hlen : cs.length ≤ 1000000) : SpK Try.prog 11 #[.agg ⟨[.int .u32 idv, .slice p cs.length cap]⟩] (Mem E) [] (fun u F' => (chk cs ∧ u = .nilIface ∧ F' = []) ∨ (¬ chk cs ∧ ∃ (k : Nat) (code pos : Int), u = .iface 77 (.pointer (some ⟨k, 0, none⟩)) ∧ F' = [(k, C [.int .u8 code, .int .i64 pos] 79)] ∧ 5 ≤ code ∧ code ≤ 12)) := by
  refine f_enter (args := [.agg ⟨[.int .u32 idv, .slice p cs.length cap]⟩]) Try.func11 rfl Try.ntmps11 rfl ?_
  intro w0 w a hpre hl hh
  simp only [slotsFrom, Nat.reduceAdd] at hl
  refine c_seq ?_
  refine c_region ?_
  refine wl (w_box hl hh rfl trivial rfl rfl ?_)
  clear hl hh a w; intro k1 a w hl hh
  refine wl (wl_val hl rfl trivial (r_assign hl rfl) ?_)
  clear hl a; intro a hl
  refine w_nil ?_
  have hl2 := hl.add (t := 1) (hl.nil) rfl; clear hl; have hl := hl2; clear hl2
  refine then_normal ?_
  refine c_seq ?_
  refine c_seq ?_
  refine c_region ?_
  refine wl (wl_val hl rfl trivial (r_field hl rfl fld37_1) ?_)
  clear hl a; intro a hl
  refine wl (w_load hl hh rfl trivial one35 rfl (by repeat (first | exact find_head | apply find_tail)) (by first | rfl) ?_)
  clear hl a; intro a hl
  refine wl (wl_val hl rfl trivial (r_lenS hl rfl slc35) ?_)
  clear hl a; intro a hl
  refine wl (wl_val hl rfl trivial (r_gtr hl rfl rfl) ?_)
  clear hl a; intro a hl
  refine w_nil ?_
  have hl2 := hl.add (t := 1) (hl.add (t := 9) (hl.nil) rfl) rfl; clear hl; have hl := hl2; clear hl2
  refine then_normal ?_
  refine c_cond hl rfl ?_ ?_
  · intro hc0
    try simp only [decide_eq_true_eq, decide_eq_false_iff_not, Bool.not_eq_true', Bool.not_eq_false', Bool.not_eq_true, Bool.not_eq_false, Bool.and_eq_true, Bool.or_eq_true, Bool.and_eq_false_iff, Bool.or_eq_false_iff, Bool.not_not, ne_eq, Int.not_lt, Int.not_le, Decidable.not_not, beq_iff_eq, bne_iff_ne] at hc0
    refine c_seq ?_
    refine c_region ?_
    refine wl (wl_val hl rfl trivial (r_build hl rfl zero79 bld79 (by simp only [fillL, setL, List.getElem?_cons_zero, List.getElem?_cons_succ, Value.cells, List.take_zero, List.take_succ_cons, List.take_nil, List.drop_zero, List.drop_succ_cons, List.drop_nil, List.length_cons, List.length_nil, List.cons_append, List.nil_append, List.append_nil, Nat.zero_add, Nat.add_zero, Nat.reduceAdd, Nat.reduceBEq, Nat.reduceEqDiff, Nat.ble, BEq.rfl, Bool.and_true, Bool.and_self, cond_true, beq_self_eq_true]; rfl)) ?_)
    clear hl a; intro a hl
    refine wl (w_box hl hh rfl trivial rfl rfl ?_)
    clear hl hh a w; intro k11 a w hl hh
    refine wl (wl_val hl rfl trivial (r_makeInterface hl rfl conc77) ?_)
    clear hl a; intro a hl
    refine wl (wl_val hl rfl trivial (r_assign hl rfl) ?_)
    clear hl a; intro a hl
    refine w_nil ?_
    have hl2 := hl.add (t := 2) (hl.nil) rfl; clear hl; have hl := hl2; clear hl2
    refine then_normal ?_
    refine wp_ret ?_
    refine then_ret ?_
    refine f_ret1 (F' := [(k11, C [.int .u8 12, .int .i64 128] 79)]) hl hh rfl rfl (by repeat (first | exact keeps_nil | apply keeps_cons (by repeat (first | exact find_head | apply find_tail)) (by first  | rfl) | exact keeps_self | exact keeps_left | exact keeps_right | exact keeps_swap | apply keeps_mv)) ?_
    exact .inr ⟨fun h => by have := h.1; omega, _, _, _, rfl, rfl, by omega, by omega⟩
  · intro hc0
    try simp only [decide_eq_true_eq, decide_eq_false_iff_not, Bool.not_eq_true', Bool.not_eq_false', Bool.not_eq_true, Bool.not_eq_false, Bool.and_eq_true, Bool.or_eq_true, Bool.and_eq_false_iff, Bool.or_eq_false_iff, Bool.not_not, ne_eq, Int.not_lt, Int.not_le, Decidable.not_not, beq_iff_eq, bne_iff_ne] at hc0
    refine wp_skip ?_
    refine then_normal ?_
    refine c_seq ?_
    refine c_seq ?_
    refine c_region ?_
    refine wl (wl_val hl rfl trivial (r_field hl rfl fld37_1) ?_)
    clear hl a; intro a hl
    refine wl (w_load hl hh rfl trivial one35 rfl (by repeat (first | exact find_head | apply find_tail)) (by first | rfl) ?_)
    clear hl a; intro a hl
    refine wl (wl_val hl rfl trivial (r_lenS hl rfl slc35) ?_)
    clear hl a; intro a hl
    refine wl (wl_val hl rfl trivial (r_move hl rfl) ?_)
    clear hl a; intro a hl
    refine w_nil ?_
    have hl2 := hl.add (t := 14) (hl.add (t := 15) (hl.add (t := 16) (hl.nil) rfl) rfl) rfl; clear hl; have hl := hl2; clear hl2
    refine then_normal ?_
    refine wp_block ?_
    obtain ⟨KS0, hKS0, hk⟩ := (hl.add (t := 14) (hl.add (t := 15) (hl.nil) rfl) rfl).name
    obtain ⟨HS0, hHS0, hh2⟩ := hh.name (keeps_nil)
    refine c_loop (α := Nat) (fun i => cs.length - i) (fun i a w => (i ≤ cs.length ∧ ∀ j c, j < i → cs[j]? = some c → ckF c = 0) ∧ Sl 31 ([(16, .int .i64 i)] ++ KS0) a ∧ Has _ w0 ([] ++ HS0) w) 0 ⟨⟨by omega, fun j c hj => absurd hj (Nat.not_lt_zero _)⟩, hl.addE (t := 16) (hk) rfl (by first | rfl), hh2⟩ ?_
    clear hk hh2 hl hh a w
    intro i a w hI
    obtain ⟨⟨hi, hall⟩, hl, hh⟩ := hI
    subst hKS0; subst hHS0
    simp only [List.cons_append, List.nil_append, List.append_nil] at hl hh
    refine c_seq ?_
    refine c_region ?_
    refine wl (wl_val hl rfl trivial (r_lss hl rfl rfl) ?_)
    clear hl a; intro a hl
    refine w_nil ?_
    have hl2 := hl.add (t := 14) (hl.add (t := 15) (hl.add (t := 16) (hl.add (t := 17) (hl.nil) rfl) rfl) rfl) rfl; clear hl; have hl := hl2; clear hl2
    refine then_normal ?_
    refine c_seq ?_
    refine c_cond hl rfl ?_ ?_
    · intro hc1
      try simp only [decide_eq_true_eq, decide_eq_false_iff_not, Bool.not_eq_true', Bool.not_eq_false', Bool.not_eq_true, Bool.not_eq_false, Bool.and_eq_true, Bool.or_eq_true, Bool.and_eq_false_iff, Bool.or_eq_false_iff, Bool.not_not, ne_eq, Int.not_lt, Int.not_le, Decidable.not_not, beq_iff_eq, bne_iff_ne] at hc1
      obtain ⟨c, hcat⟩ : ∃ c, cs[i]? = some c := ⟨_, List.getElem?_eq_getElem (by omega)⟩
      obtain ⟨b, junk, rfl, hjl, hjc, rfl⟩ := row_pos hR (by omega)
      have hm := hpre _ _ (List.mem_singleton.2 rfl)
      have hrowi := chs_at hcat junk
      have hcok := hok c (List.mem_of_getElem? hcat)
      obtain ⟨ckd, cdv, cpr, cix, cup, cra, crl, cvia, cpm, cda, cdl, ccl⟩ := c
      simp only [Ch.vals] at hrowi
      refine wp_skip ?_
      refine then_normal ?_
      refine c_seq ?_
      refine wp_block ?_
      refine c_seq ?_
      refine c_region ?_
      refine wl (wl_val hl rfl trivial (r_move hl rfl) ?_)
      clear hl a; intro a hl
      refine wl (wl_val hl rfl trivial (r_indexS hl rfl rfl slc35 (by omega) (by omega) (by first | (simp only [Int.reduceToNat]; rfl) | exact toNat_add1 _ | exact toNat_add2 _ _ | exact toNat_emod _ _ | exact Int.toNat_natCast _ | rfl)) ?_)
      clear hl a; intro a hl
      first | refine wl (w_loadA hl hh rfl trivial agg57 rfl (by repeat (first | exact find_head | apply find_tail)) (by first | (simp only [List.getElem?_cons_zero, List.getElem?_cons_succ, Value.cells, List.take_zero, List.take_succ_cons, List.take_nil, List.drop_zero, List.drop_succ_cons, List.drop_nil, List.length_cons, List.length_nil, List.cons_append, List.nil_append, List.append_nil, Nat.zero_add, Nat.add_zero, Nat.reduceAdd, Nat.reduceBEq, Nat.reduceEqDiff, Nat.ble, BEq.rfl, Bool.and_true, Bool.and_self, cond_true, beq_self_eq_true]; rfl)) (by first | rfl | (simp; done)) ?_) | refine wl (w_loadRA hl hh rfl trivial agg57 rfl hm (by simp) hrowi rfl ?_)
      clear hl a; intro a hl
      refine wl (w_alloc hl hh rfl trivial zero57 rfl ?_)
      clear hl hh a w; intro k4 a w hl hh
      refine wl (wl_val hl rfl trivial (r_assign hl rfl) ?_)
      clear hl a; intro a hl
      refine wl (w_storeA hl hh trivial agg57 rfl rfl (by repeat (first | exact find_head | apply find_tail)) (by first | rfl | (simp; done)) (by first | (simp; done) | (simp; omega)) (by first | rfl | (simp; done)) (by first | (simp only [setL, List.getElem?_cons_zero, List.getElem?_cons_succ, Value.cells, List.take_zero, List.take_succ_cons, List.take_nil, List.drop_zero, List.drop_succ_cons, List.drop_nil, List.length_cons, List.length_nil, List.cons_append, List.nil_append, List.append_nil, Nat.zero_add, Nat.add_zero, Nat.reduceAdd, Nat.reduceBEq, Nat.reduceEqDiff, Nat.ble, BEq.rfl, Bool.and_true, Bool.and_self, cond_true, beq_self_eq_true]; rfl)) ?_)
      clear hh w; intro w hh
      refine w_nil ?_
      have hl2 := hl.add (t := 3) (hl.add (t := 4) (hl.add (t := 14) (hl.add (t := 15) (hl.add (t := 16) (hl.nil) rfl) rfl) rfl) rfl) rfl; clear hl; have hl := hl2; clear hl2
      refine then_normal ?_
      refine c_seq ?_
      refine c_region ?_
      first | refine wl (w_loadA hl hh rfl trivial agg57 rfl (by repeat (first | exact find_head | apply find_tail)) (by first | (simp only [List.getElem?_cons_zero, List.getElem?_cons_succ, Value.cells, List.take_zero, List.take_succ_cons, List.take_nil, List.drop_zero, List.drop_succ_cons, List.drop_nil, List.length_cons, List.length_nil, List.cons_append, List.nil_append, List.append_nil, Nat.zero_add, Nat.add_zero, Nat.reduceAdd, Nat.reduceBEq, Nat.reduceEqDiff, Nat.ble, BEq.rfl, Bool.and_true, Bool.and_self, cond_true, beq_self_eq_true]; rfl)) (by first | rfl | (simp; done)) ?_) | refine wl (w_loadRA hl hh rfl trivial agg57 rfl hm (by simp) hrowi rfl ?_)
      clear hl a; intro a hl
      refine wl (w_call hl hh rfl trivial rfl cal30 rfl (check_ex _ _ _ _ _ _ _ _ _ _ _ _ hcok) (by repeat (first | exact keeps_nil | apply keeps_cons (by repeat (first | exact find_head | apply find_tail)) (by first  | rfl) | exact keeps_self | exact keeps_left | exact keeps_right | exact keeps_swap | apply keeps_mv)) trivial ?_)
      clear hl hh a w; intro vc Fc a w hR hl hh
      obtain ⟨⟨ck, rfl, hck, hr1, hr2, hr3⟩, rfl⟩ := hR
      try simp only [List.cons_append, List.nil_append] at hh
      have hr5 := ckF_5 _ hck
      refine wl (wl_val hl rfl trivial (r_assign hl rfl) ?_)
      clear hl a; intro a hl
      refine w_nil ?_
      have hl2 := hl.add (t := 3) (hl.add (t := 5) (hl.add (t := 14) (hl.add (t := 15) (hl.add (t := 16) (hl.nil) rfl) rfl) rfl) rfl) rfl; clear hl; have hl := hl2; clear hl2
      refine then_normal ?_
      refine c_seq ?_
      refine c_region ?_
      refine wl (wl_val hl rfl trivial (r_move hl rfl) ?_)
      clear hl a; intro a hl
      refine wl (wl_val hl rfl trivial (r_neq hl rfl rfl) ?_)
      clear hl a; intro a hl
      refine w_nil ?_
      have hl2 := hl.add (t := 3) (hl.add (t := 5) (hl.add (t := 14) (hl.add (t := 15) (hl.add (t := 16) (hl.add (t := 24) (hl.nil) rfl) rfl) rfl) rfl) rfl) rfl; clear hl; have hl := hl2; clear hl2
      refine then_normal ?_
      refine c_cond hl rfl ?_ ?_
      · intro hc2
        try simp only [decide_eq_true_eq, decide_eq_false_iff_not, Bool.not_eq_true', Bool.not_eq_false', Bool.not_eq_true, Bool.not_eq_false, Bool.and_eq_true, Bool.or_eq_true, Bool.and_eq_false_iff, Bool.or_eq_false_iff, Bool.not_not, ne_eq, Int.not_lt, Int.not_le, Decidable.not_not, beq_iff_eq, bne_iff_ne] at hc2
        refine c_seq ?_
        refine c_region ?_
        refine wl (wl_val hl rfl trivial (r_move hl rfl) ?_)
        clear hl a; intro a hl
        refine wl (wl_val hl rfl trivial (r_move hl rfl) ?_)
        clear hl a; intro a hl
        refine wl (wl_val hl rfl trivial (r_build hl rfl zero79 bld79 (by simp only [fillL, setL, List.getElem?_cons_zero, List.getElem?_cons_succ, Value.cells, List.take_zero, List.take_succ_cons, List.take_nil, List.drop_zero, List.drop_succ_cons, List.drop_nil, List.length_cons, List.length_nil, List.cons_append, List.nil_append, List.append_nil, Nat.zero_add, Nat.add_zero, Nat.reduceAdd, Nat.reduceBEq, Nat.reduceEqDiff, Nat.ble, BEq.rfl, Bool.and_true, Bool.and_self, cond_true, beq_self_eq_true]; rfl)) ?_)
        clear hl a; intro a hl
        refine wl (w_box hl hh rfl trivial rfl rfl ?_)
        clear hl hh a w; intro k28 a w hl hh
        refine wl (wl_val hl rfl trivial (r_makeInterface hl rfl conc77) ?_)
        clear hl a; intro a hl
        refine wl (wl_val hl rfl trivial (r_assign hl rfl) ?_)
        clear hl a; intro a hl
        refine w_nil ?_
        have hl2 := hl.add (t := 2) (hl.nil) rfl; clear hl; have hl := hl2; clear hl2
        refine then_normal ?_
        refine wp_ret ?_
        refine blk_ret ?_
        refine then_ret ?_
        refine then_ret ?_
        refine blk_ret ?_
        refine then_ret ?_
        refine f_ret1 (F' := [(k28, C [.int .u8 ck, .int .i64 i] 79)]) hl hh rfl rfl (by repeat (first | exact keeps_nil | apply keeps_cons (by repeat (first | exact find_head | apply find_tail)) (by first  | rfl) | exact keeps_self | exact keeps_left | exact keeps_right | exact keeps_swap | apply keeps_mv)) ?_
        exact .inr ⟨fun h => by have := h.2 _ (List.mem_of_getElem? hcat); omega, _, _, _, rfl, rfl, by omega, by omega⟩
      · intro hc2
        try simp only [decide_eq_true_eq, decide_eq_false_iff_not, Bool.not_eq_true', Bool.not_eq_false', Bool.not_eq_true, Bool.not_eq_false, Bool.and_eq_true, Bool.or_eq_true, Bool.and_eq_false_iff, Bool.or_eq_false_iff, Bool.not_not, ne_eq, Int.not_lt, Int.not_le, Decidable.not_not, beq_iff_eq, bne_iff_ne] at hc2
        refine wp_skip ?_
        refine blk_normal ?_
        refine then_normal ?_
        refine c_region ?_
        first | refine wl (wl_val hl rfl trivial (r_add hl rfl rfl (by simp only [Fits]; omega)) ?_) | refine wl (wl_val hl rfl trivial (r_addW hl rfl rfl) ?_)
        clear hl a; intro a hl
        refine wl (wl_val hl rfl trivial (r_move hl rfl) ?_)
        clear hl a; intro a hl
        refine w_nil ?_
        have hl2 := hl.add (t := 14) (hl.add (t := 15) (hl.add (t := 16) (hl.nil) rfl) rfl) rfl; clear hl; have hl := hl2; clear hl2
        refine then_normal ?_
        refine ⟨i + 1, (by omega), ⟨by omega, fun j c hj hc => by by_cases e : j = i; (subst e; rw [hcat] at hc; cases hc; rw [← hck]; omega); exact hall j c (by omega) hc⟩, hl.addE (t := 16) (hl.addE (t := 14) (hl.addE (t := 15) (hl.nil) rfl (by first | rfl | rfl)) rfl (by first | rfl | rfl)) rfl (by first | rfl | rfl), hh.keep (by repeat (first | exact keeps_nil | apply keeps_cons (by repeat (first | exact find_head | apply find_tail)) (by first  | rfl) | exact keeps_self | exact keeps_left | exact keeps_right | exact keeps_swap | apply keeps_mv))⟩
    · intro hc1
      try simp only [decide_eq_true_eq, decide_eq_false_iff_not, Bool.not_eq_true', Bool.not_eq_false', Bool.not_eq_true, Bool.not_eq_false, Bool.and_eq_true, Bool.or_eq_true, Bool.and_eq_false_iff, Bool.or_eq_false_iff, Bool.not_not, ne_eq, Int.not_lt, Int.not_le, Decidable.not_not, beq_iff_eq, bne_iff_ne] at hc1
      refine wp_exit ?_
      refine then_exit ?_
      refine then_exit ?_
      refine blk_exit ?_
      refine then_normal ?_
      refine c_seq ?_
      refine c_region ?_
      refine wl (wl_val hl rfl trivial (r_assign hl rfl) ?_)
      clear hl a; intro a hl
      refine w_nil ?_
      have hl2 := hl.add (t := 2) (hl.nil) rfl; clear hl; have hl := hl2; clear hl2
      refine then_normal ?_
      refine wp_ret ?_
      refine f_ret1 (F' := []) hl hh rfl rfl (by repeat (first | exact keeps_nil | apply keeps_cons (by repeat (first | exact find_head | apply find_tail)) (by first  | rfl) | exact keeps_self | exact keeps_left | exact keeps_right | exact keeps_swap | apply keeps_mv)) ?_
      exact .inl ⟨⟨by omega, fun c hc => by obtain ⟨j, hj⟩ := List.getElem?_of_mem hc; exact hall j c (by have := (List.getElem?_eq_some_iff.1 hj).1; omega) hj⟩, rfl, rfl⟩
end Go.Proofs.Qxb6500907a

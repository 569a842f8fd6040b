import Derived.Test.Qxb6500908aGreatU0
namespace Go.Proofs.Qxb6500908aGreat
open Go.Eng
set_option linter.unusedVariables false
set_option linter.unusedSimpArgs false

theorem row_mem {p : Option Addr} {n c s : Nat} {xs : List Value} {T : TypeId} {E : List (Nat × Obj)} {w : World} (h : Row (.slice p n c) n xs s T E) (hn : 0 < n) (hm : Mem E w) : ∃ b junk, p = some ⟨b, 0, none⟩ ∧ E = [(b, C (xs ++ junk) T)] ∧ w.heap[b]? = some (C (xs ++ junk) T) := by
  obtain ⟨b, junk, rfl, _, _, rfl⟩ := row_pos h hn
  exact ⟨b, junk, rfl, rfl, hm _ _ (List.mem_singleton.2 rfl)⟩

theorem fl_app {α : Type} {f : α → List Value} (l m : List α) : fl f (l ++ m) = fl f l ++ fl f m := by unfold fl; rw [List.map_append, List.flatten_append]

theorem fl_sing {α : Type} {f : α → List Value} (x : α) : fl f [x] = f x := by unfold fl; simp

theorem fl_cell1 {α : Type} {f : α → List Value} {g : α → Value} (h : ∀ x, f x = [g x]) {l : List α} {i : Nat} {c : α} (hi : l[i]? = some c) (junk : List Value) : (fl f l ++ junk)[0 + i * 1]? = some (g c) := by
  have := fl_at (f := f) (s := 1) (fun x => by rw [h]; rfl) hi junk
  rw [h] at this
  have h2 := congrArg (fun z : List Value => z[0]?) this
  simpa using h2

theorem has_sw {D : List Nat} {w0 w : World} {F A A' G : List (Nat × Obj)} (hh : Has D w0 F w) (hk : Keeps F A G) (hp : A.Perm A') : Has D w0 (A' ++ G) w := hh.perm (hk.perm.trans (List.Perm.append_right G hp))

theorem app_gen {α : Type} {f : α → List Value} {s : Nat} (hs : ∀ a, (f a).length = s) (l : List α) (x : α) (jo : List Value) (i : Nat) (hi : l.length = i) (hj : s ≤ jo.length) : setL (fl f l ++ jo) (0 + i * s) (f x) = fl f (l ++ [x]) ++ jo.drop s := by
  have h1 : jo = jo.take s ++ jo.drop s := (List.take_append_drop _ _).symm
  conv => lhs; rw [h1]
  rw [← List.append_assoc, Nat.zero_add, ← hi, ← fl_len hs l]
  rw [setL_mid (fl f l) (jo.take s) (jo.drop s) (f x) (by rw [hs, List.length_take]; omega), fl_app, fl_sing]

theorem own_apart {D : List Nat} {w0 w : World} {F A Zf E G : List (Nat × Obj)} (hh : Has D w0 F w) (hk : Keeps F (A ++ Zf) G) (hE : ∀ z, z ∈ E → z ∈ Zf) : ∀ z, z ∈ E → z.1 ∉ List.map Prod.fst A := by
  intro z hz hm
  have h1 := (hh.perm hk.perm).nodup
  rw [List.map_append, List.map_append, List.nodup_append, List.nodup_append] at h1
  exact h1.1.2.2 z.1 hm z.1 (List.mem_map.2 ⟨z, hE z hz, rfl⟩) rfl

theorem spk_mono {P : Program} {f : FuncId} {args : Array Value} {Pre : World → Prop} {F : List (Nat × Obj)} {R R' : Value → List (Nat × Obj) → Prop} (h : SpK P f args Pre F R) (hm : ∀ v G, R v G → R' v G) : SpK P f args Pre F R' := by
  intro w hp hM hn
  refine (h w hp hM hn).mono fun e W' hq => ?_
  cases e with
  | returned v => obtain ⟨G, h1, h2⟩ := hq; exact ⟨G, hm v G h1, h2⟩
  | _ => exact hq.elim

theorem take_snoc_eq {α : Type} {a b : List α} {i : Nat} {x y : α} (h : a.take i = b.take i) (hx : a[i]? = some x) (hy : b[i]? = some y) (e : x = y) : a.take (i + 1) = b.take (i + 1) := by
  rw [List.take_add_one, List.take_add_one, hx, hy, h, e]

theorem ne_at {α : Type} {a b : List α} {i : Nat} {x y : α} (hx : a[i]? = some x) (hy : b[i]? = some y) (e : ¬ x = y) : ¬ a = b := fun h => e (by rw [h, hy] at hx; injection hx with hx; exact hx.symm)

theorem all_eq {α : Type} {a b : List α} {i : Nat} (h : a.take i = b.take i) (ha : i = a.length) (hl : a.length = b.length) : a = b := by
  rw [ha, List.take_length, hl, List.take_length] at h; exact h

theorem map_at {α β : Type} (f : α → β) {l : List α} {i : Nat} {x : α} (h : l[i]? = some x) : (l.map f)[i]? = some (f x) := by rw [List.getElem?_map, h]; rfl

theorem take_next {α : Type} {P : α → Prop} {l : List α} {i : Nat} {x : α} (h : ∀ y, y ∈ l.take i → P y) (hx : l[i]? = some x) (hp : P x) : ∀ y, y ∈ l.take (i + 1) → P y := fun y hy => by
  rw [List.take_add_one, hx] at hy
  rcases List.mem_append.1 hy with h1 | h1
  · exact h y h1
  · have : y = x := by simpa using h1
    rw [this]; exact hp

theorem take_full {α : Type} {P : α → Prop} {l : List α} {i : Nat} (h : ∀ y, y ∈ l.take i → P y) (hi : l.length ≤ i) : ∀ y, y ∈ l → P y := fun y hy => h y (by rw [List.take_of_length_le hi]; exact hy)

theorem rd_row {p : Option Addr} {n cap : Nat} {xs : List Value} {e : TypeId} {E : List (Nat × Obj)} (h : Row (.slice p n cap) n xs 1 e E) {w : World} (hm : Mem E w) : Rd p n xs w := by
  rcases h with ⟨h1, h2, h3, _⟩ | ⟨b, cap', junk, h1, h2, h3, h4, rfl⟩
  · exact .inl ⟨h2, h3⟩
  · injection h1 with h5 h6 h7
    rw [Nat.mul_one] at h2
    refine .inr ⟨h2, b, 0, xs ++ junk, e, (0, 0), h5, hm _ _ (List.mem_singleton.2 rfl), ?_⟩
    rw [List.drop_zero, ← h2]; simp


/-! ## networks -/
structure Rte where
  a : Int
  l : Int
  v : Int
deriving DecidableEq
def rtc (x : Rte) : List Value := [.int .u8 x.a, .int .u8 x.l, .int .u8 x.v]
theorem rtc_len (x : Rte) : (rtc x).length = 3 := rfl
theorem rtc_one (x : Rte) : (rtc x).all (·.oneCell') = true := rfl
structure Rte.ok (x : Rte) : Prop where
  a : 0 ≤ x.a ∧ x.a ≤ 255
  l : 0 ≤ x.l ∧ x.l ≤ 255
  v : 0 ≤ x.v ∧ x.v ≤ 16
structure Rul where
  p : Bool
  a : Int
  l : Int
  c : Int
deriving DecidableEq
def ruc (x : Rul) : List Value := [.bool x.p, .int .u8 x.a, .int .u8 x.l, .int .u8 x.c]
theorem ruc_len (x : Rul) : (ruc x).length = 4 := rfl
theorem ruc_one (x : Rul) : (ruc x).all (·.oneCell') = true := rfl
structure Rul.ok (x : Rul) : Prop where
  a : 0 ≤ x.a ∧ x.a ≤ 255
  l : 0 ≤ x.l ∧ x.l ≤ 255
  c : 0 ≤ x.c ∧ x.c ≤ 255
/-- a device, plainly -/
structure DvP where
  rs : List Rte
  al : List Rul
  f : Int
deriving DecidableEq
/-- a network, plainly -/
structure NtP where
  dv : List DvP
  ln : List Int
deriving DecidableEq
/-- a device, and where its lists lie -/
structure DvV where
  rs : List Rte
  rp : Option Addr
  rc : Nat
  al : List Rul
  ap : Option Addr
  ac : Nat
  f : Int
def DvV.c (d : DvV) : List Value := [.slice d.rp d.rs.length d.rc, .slice d.ap d.al.length d.ac, .int .u16 d.f]
def DvV.pl (d : DvV) : DvP := ⟨d.rs, d.al, d.f⟩
theorem dvc_len (d : DvV) : d.c.length = 3 := rfl
theorem dvc_one (d : DvV) : d.c.all (·.oneCell') = true := rfl
def lnc (x : Int) : List Value := [.int .u16 x]
theorem lnc_len (x : Int) : (lnc x).length = 1 := rfl
structure NtV where
  dv : List DvV
  ln : List Int
def NtV.c (n : NtV) : List Value := fl DvV.c n.dv ++ fl lnc n.ln
def NtV.pl (n : NtV) : NtP := ⟨n.dv.map DvV.pl, n.ln⟩
def InZ (E Z : List (Nat × Obj)) : Prop := ∀ x, x ∈ E → x ∈ Z
theorem InZ.mem {E Z : List (Nat × Obj)} {w : World} (h : InZ E Z) (hm : Mem Z w) : Mem E w := fun b o m => hm b o (h _ m)
theorem InZ.app {E Z G : List (Nat × Obj)} (h : InZ E Z) : InZ E (Z ++ G) := fun x hx => List.mem_append_left _ (h x hx)
theorem InZ.appR {E Z G : List (Nat × Obj)} (h : InZ E G) : InZ E (Z ++ G) := fun x hx => List.mem_append_right _ (h x hx)
structure DvV.ok (Z : List (Nat × Obj)) (d : DvV) : Prop where
  r : ∃ E, Row (.slice d.rp d.rs.length d.rc) d.rs.length (fl rtc d.rs) 3 96 E ∧ InZ E Z
  a : ∃ E, Row (.slice d.ap d.al.length d.ac) d.al.length (fl ruc d.al) 4 98 E ∧ InZ E Z
  rb : ∀ x, x ∈ d.rs → x.ok
  ab : ∀ x, x ∈ d.al → x.ok
  f : 0 ≤ d.f ∧ d.f ≤ 65535
  n : d.rs.length + d.al.length ≤ 64
structure NtV.ok (Z : List (Nat × Obj)) (n : NtV) : Prop where
  dl : n.dv.length = 16
  ll : n.ln.length = 16
  d : ∀ d, d ∈ n.dv → d.ok Z
  l : ∀ x, x ∈ n.ln → 0 ≤ x ∧ x ≤ 65535
theorem DvV.ok.app {Z G : List (Nat × Obj)} {d : DvV} (h : d.ok Z) : d.ok (Z ++ G) := ⟨h.r.imp fun _ x => ⟨x.1, x.2.app⟩, h.a.imp fun _ x => ⟨x.1, x.2.app⟩, h.rb, h.ab, h.f, h.n⟩
theorem NtV.ok.app {Z G : List (Nat × Obj)} {n : NtV} (h : n.ok Z) : n.ok (Z ++ G) := ⟨h.dl, h.ll, fun d hd => (h.d d hd).app, h.l⟩
theorem NtV.ok.appR {Z G : List (Nat × Obj)} {n : NtV} (h : n.ok G) : n.ok (Z ++ G) := ⟨h.dl, h.ll, fun d hd => ⟨(h.d d hd).r.imp fun _ x => ⟨x.1, x.2.appR⟩, (h.d d hd).a.imp fun _ x => ⟨x.1, x.2.appR⟩, (h.d d hd).rb, (h.d d hd).ab, (h.d d hd).f, (h.d d hd).n⟩, h.l⟩
theorem NtV.len {Z : List (Nat × Obj)} {n : NtV} (h : n.ok Z) : n.c.length = 64 := by
  unfold NtV.c; rw [List.length_append, fl_len dvc_len, fl_len lnc_len, h.dl, h.ll]
/-- a device's cells -/
theorem NtV.dat {Z : List (Nat × Obj)} {n : NtV} (h : n.ok Z) {i : Nat} {d : DvV} (hd : n.dv[i]? = some d) : (n.c.drop (i * 3)).take 3 = d.c := by
  have := fl_at dvc_len hd (fl lnc n.ln)
  rw [Nat.zero_add] at this; exact this
theorem NtV.dcell {Z : List (Nat × Obj)} {n : NtV} (h : n.ok Z) {i j : Nat} {d : DvV} {v : Value} (hd : n.dv[i]? = some d) (hv : d.c[j]? = some v) : n.c[i * 3 + j]? = some v := by
  have hj : j < 3 := by have := (List.getElem?_eq_some_iff.1 hv).1; rw [dvc_len] at this; exact this
  have h1 := NtV.dat h hd
  have h2 : ((n.c.drop (i * 3)).take 3)[j]? = some v := by rw [h1]; exact hv
  rw [List.getElem?_take, if_pos hj, List.getElem?_drop] at h2; exact h2
theorem NtV.lat {Z : List (Nat × Obj)} {n : NtV} (h : n.ok Z) {i : Nat} {x : Int} (hx : n.ln[i]? = some x) : n.c[48 + i]? = some (.int .u16 x) := by
  unfold NtV.c
  rw [List.getElem?_append_right (by rw [fl_len dvc_len, h.dl]; omega), fl_len dvc_len, h.dl, show 48 + i - 16 * 3 = i by omega]
  have := fl_cell1 (f := lnc) (g := .int .u16) (fun _ => rfl) hx []
  rw [List.append_nil, Nat.zero_add, Nat.mul_one] at this; exact this
theorem NtV.pdv {n : NtV} {i : Nat} {d : DvV} (hd : n.dv[i]? = some d) : n.pl.dv[i]? = some d.pl := by
  show (n.dv.map DvV.pl)[i]? = _; rw [List.getElem?_map, hd]; rfl
theorem NtV.one {n : NtV} : n.c.all (·.oneCell') = true := by
  unfold NtV.c; rw [List.all_append, fl_all dvc_one, fl_all (fun x => rfl)]; rfl
/-! ## a device's slice, as bytes -/
def pmB (b : Bool) : Int := if b then 1 else 0
def ruS (x : Rul) : List Value := [.int .u8 (pmB x.p), .int .u8 x.a, .int .u8 x.l, .int .u8 x.c]
theorem ruS_len (x : Rul) : (ruS x).length = 4 := rfl
def slC (d : DvP) (k : Int) : List Value := [.int .u8 d.rs.length, .int .u8 d.al.length] ++ fl rtc d.rs ++ fl ruS d.al ++ [.int .u8 (d.f % 256), .int .u8 (d.f.fdiv 256 % 256), .int .u8 (k % 256), .int .u8 (k.fdiv 256 % 256)]
def dv0 : DvP := ⟨[], [], 0⟩
def slP (n : NtP) (i : Nat) : ByteArray := bstr (slC ((n.dv[i]?).getD dv0) ((n.ln[i]?).getD 0))
structure SlS where
  i : Nat
  v : Value
  E : List (Nat × Obj)
theorem slC_by (d : DvP) (k : Int) : ∀ v, v ∈ slC d k → ∃ x : Int, v = .int .u8 x := by
  intro v hv
  unfold slC at hv
  rcases List.mem_append.1 hv with hv | hv
  · rcases List.mem_append.1 hv with hv | hv
    · rcases List.mem_append.1 hv with hv | hv
      · simp at hv; rcases hv with rfl | rfl <;> exact ⟨_, rfl⟩
      · unfold fl at hv
        rw [List.mem_flatten] at hv
        obtain ⟨l, h1, h2⟩ := hv
        obtain ⟨x, _, rfl⟩ := List.mem_map.1 h1
        simp [rtc] at h2; rcases h2 with rfl | rfl | rfl <;> exact ⟨_, rfl⟩
    · unfold fl at hv
      rw [List.mem_flatten] at hv
      obtain ⟨l, h1, h2⟩ := hv
      obtain ⟨x, _, rfl⟩ := List.mem_map.1 h1
      simp [ruS] at h2; rcases h2 with rfl | rfl | rfl | rfl <;> exact ⟨_, rfl⟩
  · simp at hv; rcases hv with rfl | rfl | rfl | rfl <;> exact ⟨_, rfl⟩
theorem NtV.whole {Z : List (Nat × Obj)} {n : NtV} (h : n.ok Z) : (n.c.drop 0).take 64 = n.c := by
  rw [List.drop_zero, ← NtV.len h, List.take_length]

end Go.Proofs.Qxb6500908aGreat

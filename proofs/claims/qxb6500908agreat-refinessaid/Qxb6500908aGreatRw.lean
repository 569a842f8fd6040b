import Derived.Test.Qxb6500908aGreatEng
import Derived.Test.Qxb6500908aGreatCut
import Derived.Deep.Draws
set_option linter.unusedVariables false
set_option linter.unusedSimpArgs false
namespace Go.Eng
theorem row_val {v : Value} {n : Nat} {xs : List Value} {size : Nat} {e : TypeId} {E : List (Nat × Obj)} (h : Row v n xs size e E) : ∃ p c, v = .slice p n c := by
  rcases h with ⟨rfl, rfl, _⟩ | ⟨b, cap, junk, rfl, _⟩
  · exact ⟨_, _, rfl⟩
  · exact ⟨_, _, rfl⟩
theorem row_pos {p : Option Addr} {n cap size : Nat} {xs : List Value} {e : TypeId} {E : List (Nat × Obj)} (h : Row (.slice p n cap) n xs size e E) (h0 : 0 < n) : ∃ b junk, p = some ⟨b, 0, none⟩ ∧ (xs ++ junk).length = cap * size ∧ n ≤ cap ∧ E = [(b, C (xs ++ junk) e)] := by
  rcases h with ⟨_, h2, _, _⟩ | ⟨b, cap', junk, h1, _, h3, h4, h5⟩
  · omega
  · injection h1 with e1 _ e2
    subst e2
    exact ⟨b, junk, e1, h3, h4, h5⟩
theorem row_blk3 {v : Value} {n size : Nat} {xs : List Value} {e : TypeId} {E : List (Nat × Obj)} (h : Row v n xs size e E) (h0 : 0 < n) : ∃ b cap junk, v = .slice (some ⟨b, 0, none⟩) n cap ∧ (xs ++ junk).length = cap * size ∧ n ≤ cap ∧ E = [(b, C (xs ++ junk) e)] := by
  rcases h with ⟨_, h2, _, _⟩ | ⟨b, cap', junk, h1, _, h3, h4, h5⟩
  · omega
  · exact ⟨b, cap', junk, h1, h3, h4, h5⟩
theorem row_p {p : Option Addr} {n cap size : Nat} {xs : List Value} {e : TypeId} {E : List (Nat × Obj)} (h : Row (.slice p n cap) n xs size e E) : ∀ q, p = some q → q.spot = none := by
  rcases h with ⟨h1, _⟩ | ⟨b, cap', junk, h1, _⟩
  · injection h1 with e1; intro q e; rw [e1] at e; cases e
  · injection h1 with e1; intro q e; rw [e1] at e; cases e; rfl
theorem row_cut0 {p : Option Addr} {n cap size : Nat} {xs : List Value} {e : TypeId} {E : List (Nat × Obj)} (h : Row (.slice p n cap) n xs size e E) : Row (.slice p 0 cap) 0 [] size e E := by
  rcases h with ⟨h1, h2, _, h4⟩ | ⟨b, cap', junk, h1, h2, h3, h4, h5⟩
  · injection h1 with e1 _ e3
    exact .inl ⟨by rw [e1, e3], rfl, rfl, h4⟩
  · injection h1 with e1 _ e3
    exact .inr ⟨b, cap', xs ++ junk, by rw [e1, e3], by simp, by simpa using h3, Nat.zero_le _, by simpa using h5⟩
theorem mem_keep {w0 w : World} {F Sc : List (Nat × Obj)} (hh : Has [] w0 F w) (h : Mem Sc w0) : Mem Sc w := fun b o m =>
  (hh.frm.block b (Array.getElem?_eq_some_iff.1 (h b o m)).1 (by simp)).trans (h b o m)
theorem mem_keepD {D : List Nat} {w0 w : World} {F Sc : List (Nat × Obj)} (hh : Has D w0 F w) (h : Mem Sc w0) (hd : ∀ x, x ∈ Sc → x.1 ∉ D) : Mem Sc w := fun b o m =>
  (hh.frm.block b (Array.getElem?_eq_some_iff.1 (h b o m)).1 (hd _ m)).trans (h b o m)
theorem heap_keep {w0 w : World} {F : List (Nat × Obj)} {b : Nat} {o : Obj} (hh : Has [] w0 F w) (h : w0.heap[b]? = some o) : w.heap[b]? = some o :=
  (hh.frm.block b (Array.getElem?_eq_some_iff.1 h).1 (by simp)).trans h
theorem fresh_ne {w0 w : World} {F : List (Nat × Obj)} (hh : Has [] w0 F w) {a b : Nat} {o o' : Obj} (ha : w0.heap[a]? = some o) (hb : (b, o') ∈ F) : a ≠ b := by
  have h1 := (Array.getElem?_eq_some_iff.1 ha).1
  rcases hh.own b o' hb with h2 | h2
  · cases h2
  · omega
theorem has_rot {D : List Nat} {w0 w : World} {A T : List (Nat × Obj)} {y : Nat × Obj} (h : Has D w0 (A ++ (T ++ [y])) w) : Has D w0 (y :: (A ++ T)) w := h.perm (by rw [← List.append_assoc]; exact List.perm_append_comm)
theorem has_front {D : List Nat} {w0 w : World} {A B : List (Nat × Obj)} (h : Has D w0 (A ++ B) w) : Has D w0 A w := h.keep ⟨List.Perm.refl _⟩
theorem has_back {D : List Nat} {w0 w : World} {A B : List (Nat × Obj)} (h : Has D w0 (A ++ B) w) : Has D w0 B w := h.keep ⟨List.perm_append_comm⟩
theorem fl_set {α : Type} {f : α → List Value} {s : Nat} (hs : ∀ a, (f a).length = s) (l : List α) (c : α) (junk : List Value) (i : Nat) (h : i < l.length) : setL (fl f l ++ junk) (0 + i * s) (f c) = fl f (l.set i c) ++ junk := by
  have hA : (fl f (l.take i)).length = i * s := by rw [fl_len hs, List.length_take]; congr 1; omega
  have h1 : fl f l = fl f (l.take i) ++ f l[i] ++ fl f (l.drop (i + 1)) := by rw [fl_split l i, List.drop_eq_getElem_cons h, fl_cons]; simp
  have h2 : fl f (l.set i c) = fl f (l.take i) ++ f c ++ fl f (l.drop (i + 1)) := by rw [List.set_eq_take_append_cons_drop, if_pos h, fl_append, fl_cons]; simp
  rw [h1, h2, Nat.zero_add, ← hA, List.append_assoc (fl f (l.take i) ++ f l[i]), setL_mid _ _ _ _ (by rw [hs, hs])]
  simp
theorem fl_cell {α : Type} {f : α → List Value} {s : Nat} (hs : ∀ a, (f a).length = s) {l : List α} {i j : Nat} {c : α} {v : Value} (h : l[i]? = some c) (hj : (f c)[j]? = some v) (junk : List Value) : (fl f l ++ junk)[0 + i * s + j]? = some v := by
  have h1 := fl_at hs h junk
  have h2 : (((fl f l ++ junk).drop (0 + i * s)).take s)[j]? = some v := by rw [h1]; exact hj
  rw [List.getElem?_take] at h2
  split at h2
  · rw [List.getElem?_drop] at h2; exact h2
  · cases h2
section room
variable {P : Program} {n : Nat} {L : List (Nat × Value)} {a : Act} {w : World} {T : TypeId} {pos : String} {aft : Array Edge} {g : Option (Nat × Bool)} {dst : Option Nat} {x y : Operand}
variable {ops : Array Oper} {Q : Exit → Act → World → Prop} {K : Act → World → Prop} {D : List Nat} {w0 : World} {F G : List (Nat × Obj)}
/-- append where there is room -/
theorem w_appendRoom {d : Nat} {t e size bytes b i m cap b2 o2 c2 : Nat} {l l2 : List Value} {T2 : TypeId} {f2 : Nat × Nat} (hl : Sl n L a) (hh : Has D w0 F w) (hd : Nat.blt d n = true) (hg : GuardOk ops L g) (ht : appOk P t e size bytes = true)
    (hx : val L x = some (.slice (some ⟨b, 0, none⟩) i cap)) (hy : val L y = some (.slice (some ⟨b2, o2, none⟩) m c2)) (hf : Find F b (C l e) G) (hs : w.heap[b2]? = some (.cells ⟨l2⟩ T2 f2)) (hn : i + m ≤ cap) (hlen : i * size + m * size ≤ l.length) {news : List Value} (hne : (l2.drop o2).take (m * size) = news) (hnl : news.length = m * size) (h1 : news.all (·.oneCell') = true)
    {l' : List Value} (hset : setL l (i * size) news = l')
    (k : ∀ a' w', Sl n ((d, .slice (some ⟨b, 0, none⟩) (i + m) cap) :: L) a' → Has D w0 ((b, C l' e) :: G) w' → K a' w') :
    OpW P ops Q ⟨some d, .call { callee := .builtin .append, args := #[x, y], argTypes := #[t, t] }, T, pos, aft, g⟩ K a w := by
  have hm := hh.mem b _ hf.mem
  obtain ⟨inf, z, hu, hi, hz, rfl, rfl, hzs⟩ := appOk_spec ht
  have hfit : i * inf.size + news.length ≤ (⟨l⟩ : Array Value).size := by rw [hnl]; simpa using hlen
  have hr := run_append_room (P := P) w t T e inf hu hi b i cap ⟨l⟩ hm ⟨b2, o2, none⟩ m c2 news hnl (fun j u hj => by
    rw [add_off]
    have hlt : j < m * inf.size := by have := (List.getElem?_eq_some_iff.1 hj).1; omega
    rw [← hne, List.getElem?_take, if_pos hlt, List.getElem?_drop] at hj
    simp only [World.cell?, hs]
    simpa using hj) (fun u hu => by simpa using List.all_eq_true.1 h1 u hu) hn hfit
  refine wl_val hl hd hg (v := .slice (some ⟨b, 0, none⟩) (i + m) cap) (w' := w.setRow b ⟨setL l (i * inf.size) news⟩) ?_ fun a' hl' => k a' _ hl' (hset ▸ hh.write hf (heap_setRow hm) rfl rfl rfl)
  simp only [Gives, execOp, resolve, invoke, builtin]
  simp [hl.ev hx, hl.ev hy, hr, setL]
/-- x[i:], also at the very end -/
theorem r_sliceS10y {t size b o len cap : Nat} {k : IntKind} {i : Int} (hl : Sl n L a) (hx : val L x = some (.slice (some ⟨b, o, none⟩) len cap)) (hy : val L y = some (.int k i)) (ht : slcOk P t size = true) (h : 0 ≤ i ∧ i ≤ len ∧ len ≤ cap) {q : Nat} (hq : i.toNat = q) :
    Gives P a ⟨dst, .slice t x (some y) none none, T, pos, aft, g⟩ w (.slice (if q < cap then some ⟨b, o + q * size, none⟩ else some ⟨b, o, none⟩) (len - q) (cap - q)) w := by
  by_cases hc : q < cap
  · rw [if_pos hc]
    exact r_sliceS10 hl hx hy ht (by omega) hq
  · rw [if_neg hc]
    have := r_sliceS10e (dst := dst) (T := T) (pos := pos) (aft := aft) (g := g) (w := w) hl hx hy ht (by omega) hq
    rw [show cap - q = 0 by omega]
    exact this
end room
/-! exact worlds -/
section exact
variable {P : Program} {n : Nat} {L : List (Nat × Value)} {a : Act} {w : World} {T : TypeId} {pos : String} {aft : Array Edge} {g : Option (Nat × Bool)} {dfs : List Deferred}
variable {ops : Array Oper} {Q : Exit → Act → World → Prop} {K : Act → World → Prop} {D : List Nat} {w0 : World} {F : List (Nat × Obj)}
theorem f_enterE {f : FuncId} {fn : Func} {c : Code} {args : List Value} {R : Ending → World → Prop} {N : Nat} (hf : P.funcs[f]? = some fn) (hb : fn.body = some c) (hN : fn.ntmps = N) (hargs : Nat.ble args.length N = true)
    (h : ∀ a w', w' = w → Sl N (slotsFrom 0 args) a → Has [] w [] w' → c.wp P (bodyPost P fn R) a w') : Calls P f ⟨args⟩ w R := by
  refine calls_of_wp hf hb (h _ _ rfl ⟨?_, rfl, fun t v hv => ?_⟩ (Has.start (F := []) (fun _ _ m => by cases m) List.nodup_nil))
  · have := Nat.le_of_ble_eq_true hargs; simp [hN]; omega
  · obtain ⟨_, h2⟩ := look_slotsFrom args 0 t v hv
    simp only [Nat.sub_zero] at h2
    have ht : t < args.length := (List.getElem?_eq_some_iff.1 h2).1
    rw [Array.getElem?_append_left (by simpa using ht)]
    simpa using h2
theorem f_ret1E {fn : Func} {R : Ending → World → Prop} {t : Nat} {v : Value} (hl : Sl n L a) (hr : fn.results = #[.tmp t]) (hv : look L t = some v) (hR : R (.returned v) w) : bodyPost P fn R .ret a w :=
  ⟨hl.defers, v, by simp [results, hr, hl.get t v hv], hR⟩
theorem drewN_drew (w : World) (q : Nat) : World.drew (w.drewN q) = w.drewN (q + 1) := rfl
theorem c_drawE {id : Nat} (FC : List (Nat × Obj)) (Lt : List Nat) (hm : P.follows .mixedOrders = true) (hh : Has D w0 F w)
    (h : ∀ w', w' = World.drew w → Has D w0 F w' → wpAnyR P ops Lt (Mem FC) Q ops.size (Array.replicate ops.size false) a w') : (Code.region id ops true).wp P Q a w :=
  wp_region_any hm (wpAnyR_sound _ _ _ _ (h _ rfl (hh.draw _)))
theorem w_callE {d : Nat} {f : FuncId} {xs : List Operand} {vs : List Value} {fo : Operand} {cap : Array Value} {ts : Array TypeId} {v : Value}
    (hl : SlD dfs n L a) (hd : Nat.blt d n = true) (hg : GuardOk ops L g) (hf : val L fo = some (.func (.func f) #[] cap)) (hc : callable P f = true) (hv : vals L xs = some vs)
    (hs : Calls P f (⟨vs⟩ ++ cap) w fun e w' => e = .returned v ∧ w' = w)
    (k : ∀ a', SlD dfs n ((d, v) :: L) a' → K a' w) :
    OpW P ops Q ⟨some d, .call { callee := .value fo, args := ⟨xs⟩, argTypes := ts }, T, pos, aft, g⟩ K a w := by
  unfold OpW
  rw [if_pos (wanted_ok hl (o := ⟨some d, .call { callee := .value fo, args := ⟨xs⟩, argTypes := ts }, T, pos, aft, g⟩) hg)]
  left
  unfold Oper.wp
  rw [run_call hl hf hc hv]
  show Calls P f _ w _
  refine hs.mono fun e w' he => ?_
  obtain ⟨rfl, rfl⟩ := he
  exact k _ (hl.put hd v)
end exact
end Go.Eng

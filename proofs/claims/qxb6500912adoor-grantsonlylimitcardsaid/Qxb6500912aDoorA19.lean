import Derived.Test.Qxb6500912aDoorA18
namespace Go.Proofs.Qxb6500912aDoor
open Go.Eng
set_option linter.unusedVariables false
set_option linter.unusedSimpArgs false

theorem play_spec {asked after : Value} (hA : AskOk asked) (hB : AftOk after) (sb : Nat) (c : List Value) (T : TypeId) (fr : Nat × Nat) (p : Option Addr) (n cap : Nat) (ops : List DO) (hn : n = ops.length) (hlen : n ≤ 9223372036854775807) (h : DOps sb c p cap ops) (hsm : ∀ o, o ∈ ops → o.dat.length ≤ 65536) (gT : TypeId) (gv : Value) (GT : TypeId) (gf : Nat × Nat) (HT : TypeId) (hf : Nat × Nat) :
    SpK Tryd.prog 9 #[.slice p n cap, asked, after] (fun w => DIn sb c T fr ops w ∧ w.heap[0]? = some (.cells ⟨cfL cfg0⟩ HT hf) ∧ w.heap[1]? = some (.cells ⟨[.iface gT gv]⟩ GT gf)) [] (fun v F' => v = .bool true ∧ F' = []) := by
  rcases hB with rfl | ⟨fb, rfl, hcal, hfb⟩
  · exact playN_spec sb c T fr p n cap ops hn hlen h hsm asked hA gT gv GT gf HT hf
  · exact playF_spec sb c T fr p n cap ops hn hlen h hsm asked hA gT gv GT gf HT hf fb hcal hfb
theorem DIn.keep {sb : Nat} {c : List Value} {T : TypeId} {fr : Nat × Nat} {ops : List DO} {w w' : World} {F : List (Nat × Obj)} (hh : Has [] w F w') (h : DIn sb c T fr ops w) : DIn sb c T fr ops w' :=
  ⟨fun h0 => heap_keep hh (h.1 h0), fun d hd => mem_keep hh (h.2 d hd)⟩

end Go.Proofs.Qxb6500912aDoor

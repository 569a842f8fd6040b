import Derived.Test.Qxb6500909aDoorOpen
import Derived.Test.Qxb6500909aDoorCards
import Derived.Test.Qxb6500909aDoorTie
import Derived.LaidHandle
import Derived.SevenTiedAt
namespace Go.Proofs.Qxb6500909aDoor.encodeDecode
open Go.Eng Go.Proofs.Qxb6500909aDoor
open Go.ChangeShapes Go.WideShapes Go.ChangeAt Go.RowKit
set_option linter.unusedVariables false
theorem star : "*" ++ "errors.errorString" = "*errors.errorString" := by decide
theorem tooBigG : Tryd.prog.globalNamed "e2e/api.ErrTooBig" = some 1 := by kernel_rfl
theorem tooBigT : (Tryd.prog.globals[1]?).map (·.type) = some 35 := by kernel_rfl
theorem row128 (u : TypeId) (h : Tryd.prog.typeName? 3 u = some "*errors.errorString") : u = 128 :=
  typeName_ptr_named (nm := "errors.errorString") (by rw [star]; kernel_rfl) (by kernel_rfl) (by decide) u (by rw [star]; exact h)
/-- what the listed variable holds -/
theorem held {W : World} (h : laidMetH Tryd.prog Rows.encodeDecodeRow.laid W) : ∃ (ga : Addr) (GT : TypeId) (gf : Nat × Nat), W.heap[1]? = some (.cells ⟨[.iface 128 (.pointer (some ga))]⟩ GT gf) := by
  have hL : laidMet Tryd.prog Rows.encodeDecodeRow.laid W := h
  obtain ⟨a, s, hv, _⟩ := laid_sentinel hL tooBigG tooBigT Tryd.underlying35 row128 Tryd.underlying128 Tryd.underlying152 rfl rfl Tryd.underlying9 cells152 cells9
  unfold World.var? at hv
  rw [tooBigG] at hv
  simp only [Option.bind_some] at hv
  split at hv
  · rename_i cs t fr hc
    injection hv with hv
    subst hv
    exact ⟨a, t, fr, hc⟩
  · cases hv
noncomputable def low : Nat := (World.holding Tryd.prog default ⟨#[], #[], []⟩).heap.size
abbrev s0 : ByteArray := { data := #[113, 108, 111, 103, 58, 32, 116, 104, 101, 32, 112, 97, 121, 108, 111, 97, 100, 32, 105, 115, 32, 108, 97, 114, 103, 101, 114, 32, 116, 104, 97, 110, 32, 97, 32, 115, 101, 103, 109, 101, 110, 116] }
abbrev s1 : ByteArray := { data := #[113, 108, 111, 103, 58, 32, 110, 111, 32, 119, 104, 111, 108, 101, 32, 114, 101, 99, 111, 114, 100, 32, 104, 101, 114, 101] }
abbrev s2 : ByteArray := { data := #[113, 108, 111, 103, 58, 32, 117, 110, 107, 110, 111, 119, 110, 32, 114, 101, 99, 111, 114, 100, 32, 107, 105, 110, 100] }
/-- a world in which the variables lie as their initialisers lay them -/
noncomputable def laidWorld (os : Os) : World :=
  let w0 := World.holding Tryd.prog os ⟨#[.cells #[.string s0] 152, .cells #[.string s1] 152, .cells #[.string s2] 152], #[], []⟩
  { w0 with heap := ((w0.heap.modify 1 fun
      | .cells _ t frozen => .cells #[.iface 128 (.pointer (some ⟨low, 0, none⟩))] t frozen
      | o => o).modify 7 fun
      | .cells _ t frozen => .cells #[.iface 128 (.pointer (some ⟨low + 1, 0, none⟩))] t frozen
      | o => o).modify 6 fun
      | .cells _ t frozen => .cells #[.iface 128 (.pointer (some ⟨low + 2, 0, none⟩))] t frozen
      | o => o }
theorem laidWorld_met (os : Os) (args : Array Value) : laidMetH Tryd.prog Rows.encodeDecodeRow.laid ((laidWorld os).forCall (fun _ _ => 0) ⟨#[], args, []⟩).memory :=
  show laidMet Tryd.prog Rows.encodeDecodeRow.laid _ from
  laidMet_of_run (ps := [.cell 1 0, .cell low 0, .cell 7 0, .cell (low + 1) 0, .cell 6 0, .cell (low + 2) 0]) 8 (by kernel_rfl) (by kernel_rfl) (by kernel_rfl)
set_option maxRecDepth 100000 in
theorem lifted (os : Os) (started : os.Started) (H : Type) (enc : TypeId × Value → H) :
    ReturnsInHanded {} Tryd.checked os 6 .any (fun w args => (Rows.encodeDecodeSpec.pre enc Tryd.prog Tryd.f6 [] false w args ∧ laidMetH Tryd.prog Rows.encodeDecodeRow.laid w) ∧ sizedMet enc Tryd.prog Tryd.f6 (OpenSpec.ofChange Rows.encodeDecodeSpec) false w args)
      (Rows.encodeDecodeSpec.post enc Tryd.prog Tryd.f6 false true false false) := by
  refine returnsInHanded_of_change_and (C := Tryd.checked) (X := fun w _ => laidMetH Tryd.prog Rows.encodeDecodeRow.laid w) (fun _ _ _ hh h => h.of_heap hh) own started (by kernel_rfl) Tryd.func6
    (ChangeSpec.witness_at (enc := enc) (C := Tryd.checked) (os := os) (X := fun w _ => laidMetH Tryd.prog Rows.encodeDecodeRow.laid w) false (laidWorld os) #[.slice none 0 0] 8 rfl (by kernel_rfl) (by kernel_rfl) (by kernel_rfl) (by kernel_rfl) (by kernel_rfl) (laidWorld_met os _)) ?_
  intro W base args ds gs before hval0 hW _ _ hL _
  have hval : ∀ (j : Nat) t v, Tryd.f6.params[j]? = some t → args[j]? = some v → Value.okWide Tryd.prog W .any base t v := hval0
  have hW' := hW
  obtain ⟨p, q, hA0, hV, rfl, hfz, hnd⟩ := hW
  have hA : DataW.TrodAll enc Tryd.prog W 0 (fun _ => true) true Tryd.f6.params.toList args.toList ds p := hA0
  rw [Tryd.params6] at hA hval
  obtain ⟨v0, d0, rfl, rfl, h0⟩ := trodAll_one hA
  have hsl := okWide_slice Tryd.underlying22 (hval 0 22 v0 rfl rfl)
  obtain ⟨sb, c, T, fr, p0, n0, cap0, ops, rfl, hn, hlen, hO, hin⟩ := ops_open hsl h0
  obtain ⟨ga, GT, gf, hg⟩ := held hL
  refine (law6 sb c T fr p0 n0 cap0 ops hn hlen hO ga GT gf W ⟨hin, hg⟩ (fun b o m => by cases m) List.nodup_nil).mono fun e W' hq => ?_
  cases e with
  | returned v =>
    obtain ⟨F', ⟨rfl, rfl⟩, hh⟩ := hq
    exact ⟨_, rfl, law_post (B := 4) laidOut (fun t ht => by rw [Tryd.params6] at ht; simp only [List.mem_singleton] at ht; subst ht; exact ⟨read22, size22⟩) Tryd.underlying4 rfl rfl rfl hW' hh⟩
  | _ => exact hq.elim
theorem over : Rows.encodeDecodeRow.holds Tryd.pinned (OpenSpec.ofChange Rows.encodeDecodeSpec) :=
  OpenClaim.holds_of_wide 6 Tryd.f6 rfl rfl rfl rfl rfl rfl rfl ⟨rfl, rfl, rfl, rfl, rfl⟩ rfl rfl rfl rfl rfl (by kernel_rfl) Tryd.func6 (by kernel_rfl)
    (of_decide_eq_true (by kernel_rfl)) (by unfold Func.isWrapper; first | (rw [if_pos (by decide +kernel)]; kernel_rfl) | (rw [if_neg (by decide +kernel)]; exact ⟨rfl, rfl⟩))
    (fun os started H enc _ => lifted os started H enc)
theorem card : Rows.EncodeDecodeCardSaid :=
  Claim7.holds_tied_plain_at .later [] [.sentinel, .sentinel, .sentinel] true (true, "838114bd0f8a00aa520538fc17aa09b7b69822b18c80bfa0362f3a4ac2f0d147") true
    over (fun _ h => by cases h) (by kernel_rfl) (fun _ h => by cases h) encodeDecode_row_tie rfl ⟨rfl, rfl⟩ (by kernel_rfl) rfl
    (fun f fn hf hfn => by
      obtain rfl : f = 6 := Option.some.inj ((show Tryd.prog.funcNamed "e2e/qloglaw.EncodeDecode" = some 6 by kernel_rfl).symm.trans hf) |>.symm
      obtain rfl : fn = Tryd.f6 := (Option.some.inj (Tryd.func6.symm.trans hfn)).symm
      exact ⟨by kernel_rfl, fun j t ht => by
        rw [Tryd.params6] at ht
        have h3 : t = 22 := by
          rcases j with _ | j
          · simpa using ht.symm
          · simp at ht
        subst h3
        exact (show Tryd.prog.wantsStandIn 22 = false by kernel_rfl)⟩)
    (by kernel_rfl)
end Go.Proofs.Qxb6500909aDoor.encodeDecode
namespace Go.Proofs.Qxb6500909aDoor
/-- THE STATEMENT -/
theorem encodeDecode_proved : Rows.EncodeDecodeCardSaid := encodeDecode.card
end Go.Proofs.Qxb6500909aDoor

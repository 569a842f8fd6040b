/-
  DERIVED. GIVEN WITH THE SEED: THE CARDS: each row of Qxb6500909aDoorRows.lean that lists a variable, with what it lists TIED to the program's text (the seventh form; the later family's looks); each row that meets fmt, with fmt's text TOLD by the authors' own Lean function (tested against real Go, not proved from fmt's source: count such statements apart). THE CARD IS WHAT COUNTS. Prove the row's statement (the work); the ties are given (Qxb6500909aDoorTie.lean); close each card by the builder's one call (the guide's Derived/Test/ToyasCard.lean, 'card_holds'). Laid BY PROGRAM, IN A SANDBOX (cutbox-door.mjs). By AI agents, Wed Nov 11 2026. No macro, syntax, notation, axiom, sorry.
-/
import Derived.Test.Qxb6500909aDoorRows
import GoSem.ClaimSeven
namespace Go.Proofs.Qxb6500909aDoor
namespace Rows

/-- THE TIED CARD OF 'qloglaw.Refines'. -/
def refinesCard : Claim7 := { stood := { row := refinesRow, standIns := [], harness := (true, "838114bd0f8a00aa520538fc17aa09b7b69822b18c80bfa0362f3a4ac2f0d147"), looks := true }, kinds := [], alts := [], laidByText := true, laidKinds := [.sentinel, .sentinel, .sentinel, .sentinel, .sentinel, .sentinel, .sentinel, .sentinel], laidTests := true, laidLooks := .later }
def RefinesCardSaid : Prop := Claim7.holds Tryd.pinned (.plain (OpenSpec.ofChange refinesSpec)) refinesCard

/-- THE TIED CARD OF 'qloglaw.RecoveryKeepsSyncedPrefix'. -/
def recoveryKeepsSyncedPrefixCard : Claim7 := { stood := { row := recoveryKeepsSyncedPrefixRow, standIns := [], harness := (true, "838114bd0f8a00aa520538fc17aa09b7b69822b18c80bfa0362f3a4ac2f0d147"), looks := true }, kinds := [], alts := [], laidByText := true, laidKinds := [.sentinel, .sentinel, .sentinel, .sentinel, .sentinel, .sentinel, .sentinel], laidTests := true, laidLooks := .later }
def RecoveryKeepsSyncedPrefixCardSaid : Prop := Claim7.holds Tryd.pinned (.plain (OpenSpec.ofChange recoveryKeepsSyncedPrefixSpec)) recoveryKeepsSyncedPrefixCard

/-- THE TIED CARD OF 'qloglaw.RecoverTwiceSame'. -/
def recoverTwiceSameCard : Claim7 := { stood := { row := recoverTwiceSameRow, standIns := [], harness := (true, "838114bd0f8a00aa520538fc17aa09b7b69822b18c80bfa0362f3a4ac2f0d147"), looks := true }, kinds := [], alts := [], laidByText := true, laidKinds := [.sentinel, .sentinel, .sentinel, .sentinel, .sentinel, .sentinel, .sentinel], laidTests := true, laidLooks := .later }
def RecoverTwiceSameCardSaid : Prop := Claim7.holds Tryd.pinned (.plain (OpenSpec.ofChange recoverTwiceSameSpec)) recoverTwiceSameCard

/-- THE TIED CARD OF 'qloglaw.EncodeDecode'. -/
def encodeDecodeCard : Claim7 := { stood := { row := encodeDecodeRow, standIns := [], harness := (true, "838114bd0f8a00aa520538fc17aa09b7b69822b18c80bfa0362f3a4ac2f0d147"), looks := true }, kinds := [], alts := [], laidByText := true, laidKinds := [.sentinel, .sentinel, .sentinel], laidTests := true, laidLooks := .later }
def EncodeDecodeCardSaid : Prop := Claim7.holds Tryd.pinned (.plain (OpenSpec.ofChange encodeDecodeSpec)) encodeDecodeCard

/-- THE TIED CARD OF 'qloglaw.FlipIsRejected'. -/
def flipIsRejectedCard : Claim7 := { stood := { row := flipIsRejectedRow, standIns := [], harness := (true, "838114bd0f8a00aa520538fc17aa09b7b69822b18c80bfa0362f3a4ac2f0d147"), looks := true }, kinds := [], alts := [], laidByText := true, laidKinds := [.sentinel, .sentinel, .sentinel, .sentinel, .sentinel, .sentinel, .sentinel], laidTests := true, laidLooks := .later }
def FlipIsRejectedCardSaid : Prop := Claim7.holds Tryd.pinned (.plain (OpenSpec.ofChange flipIsRejectedSpec)) flipIsRejectedCard

/-- THE TIED CARD OF 'qloglaw.FullAppendIsRefused'. -/
def fullAppendIsRefusedCard : Claim7 := { stood := { row := fullAppendIsRefusedRow, standIns := [], harness := (true, "838114bd0f8a00aa520538fc17aa09b7b69822b18c80bfa0362f3a4ac2f0d147"), looks := true }, kinds := [], alts := [], laidByText := true, laidKinds := [.sentinel, .sentinel, .sentinel, .sentinel, .sentinel, .sentinel, .sentinel], laidTests := true, laidLooks := .later }
def FullAppendIsRefusedCardSaid : Prop := Claim7.holds Tryd.pinned (.plain (OpenSpec.ofChange fullAppendIsRefusedSpec)) fullAppendIsRefusedCard

/-- THE TIED CARD OF 'qloglaw.CheckpointIsAtomic'. -/
def checkpointIsAtomicCard : Claim7 := { stood := { row := checkpointIsAtomicRow, standIns := [], harness := (true, "838114bd0f8a00aa520538fc17aa09b7b69822b18c80bfa0362f3a4ac2f0d147"), looks := true }, kinds := [], alts := [], laidByText := true, laidKinds := [.sentinel, .sentinel, .sentinel, .sentinel, .sentinel, .sentinel, .sentinel], laidTests := true, laidLooks := .later }
def CheckpointIsAtomicCardSaid : Prop := Claim7.holds Tryd.pinned (.plain (OpenSpec.ofChange checkpointIsAtomicSpec)) checkpointIsAtomicCard
end Rows
end Go.Proofs.Qxb6500909aDoor

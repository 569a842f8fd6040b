/-
  NARROWER THAN 'FOR EVERY INPUT', by the rows' own cells (each row's printed sentence says how): Refines: laid · RecoveryKeepsSyncedPrefix: laid · RecoverTwiceSame: laid · EncodeDecode: laid · FlipIsRejected: laid · FullAppendIsRefused: laid · CheckpointIsAtomic: laid.
  DERIVED. THE GIVEN ROWS OF THIS SEAT. 7 by the template 'for every input the law returns true; each argument reads behind the call as it read before'; 0 by the template 'total and deterministic' (their statements: Qxb6500909aDoorTotals.lean).
  GIVEN WITH THE SEED: the statements are not yours to turn. If you find one false, say at which input.
  Laid BY PROGRAM, IN A SANDBOX (cutbox-rows.mjs): the forced cells as the released guide's own fill.sh prints them over the translation 776d28b4472a388e… (all of the seat's roots in one cut). By AI agents, Wed Nov 11 2026. No macro, syntax, notation, axiom, sorry.
-/
import Derived.Test.Qxb6500909aDoorChecked
import GoSem.Claim
import GoSem.ClaimJoined
import GoSem.ClaimMapViews
import Derived.JoinedTies
import Derived.KernelRfl
namespace Go.Proofs.Qxb6500909aDoor
/- THE CELL 'sum', in the pinned program and in every row, IS THE sha256 OF THE DUMP (.gsa) THAT Qxb6500909aDoorProg.lean LOADS. Nothing in Lean hashes anything: it is a label: what it is worth is what the hold of that sum in a sandbox is worth. -/
noncomputable def Tryd.pinned : Pinned := { name := "qxb6500909adoor", sum := "776d28b4472a388e02cafb536e691576771ffd476bb1210f9844d5c5a8a4f955", checked := Tryd.checked }
namespace Rows
def none {H : Type} : Left H := { results := [], args := [] }

/- WHAT THE LISTED PACKAGE-LEVEL VARIABLES READ AS WHEN THE CALL BEGINS. Each datum BY PROGRAM (the guide's laid-datum.mjs) off the statement by which the dump's own 'gosem.cut.vars' lays the variable. In a bare row this is a premise. The card (Qxb6500909aDoorCards.lean) ties it to the program's text. -/
def laid_e2e_api_ErrDown {H : Type} : DataW H := .iface "*errors.errorString" (.ptr (.agg [.lit (.string [100, 105, 115, 107, 58, 32, 116, 104, 101, 32, 112, 111, 119, 101, 114, 32, 105, 115, 32, 111, 102, 102])]))
def laid_e2e_api_ErrFull {H : Type} : DataW H := .iface "*errors.errorString" (.ptr (.agg [.lit (.string [113, 108, 111, 103, 58, 32, 116, 104, 101, 32, 114, 101, 99, 111, 114, 100, 32, 100, 111, 101, 115, 32, 110, 111, 116, 32, 102, 105, 116, 32, 105, 110, 32, 116, 104, 101, 32, 115, 101, 103, 109, 101, 110, 116])]))
def laid_e2e_api_ErrTooBig {H : Type} : DataW H := .iface "*errors.errorString" (.ptr (.agg [.lit (.string [113, 108, 111, 103, 58, 32, 116, 104, 101, 32, 112, 97, 121, 108, 111, 97, 100, 32, 105, 115, 32, 108, 97, 114, 103, 101, 114, 32, 116, 104, 97, 110, 32, 97, 32, 115, 101, 103, 109, 101, 110, 116])]))
def laid_e2e_api_ErrBroken {H : Type} : DataW H := .iface "*errors.errorString" (.ptr (.agg [.lit (.string [113, 108, 111, 103, 58, 32, 97, 32, 100, 101, 118, 105, 99, 101, 32, 102, 97, 105, 108, 117, 114, 101, 32, 98, 114, 111, 107, 101, 32, 116, 104, 101, 32, 108, 111, 103, 44, 32, 111, 112, 101, 110, 32, 105, 116, 32, 97, 103, 97, 105, 110])]))
def laid_e2e_api_ErrCorrupt {H : Type} : DataW H := .iface "*errors.errorString" (.ptr (.agg [.lit (.string [113, 108, 111, 103, 58, 32, 116, 104, 101, 32, 115, 110, 97, 112, 115, 104, 111, 116, 32, 111, 102, 32, 116, 104, 101, 32, 97, 99, 116, 105, 118, 101, 32, 115, 101, 103, 109, 101, 110, 116, 32, 105, 115, 32, 117, 110, 114, 101, 97, 100, 97, 98, 108, 101])]))
def laid_e2e_api_ErrWorn {H : Type} : DataW H := .iface "*errors.errorString" (.ptr (.agg [.lit (.string [113, 108, 111, 103, 58, 32, 116, 104, 101, 32, 101, 112, 111, 99, 104, 32, 99, 111, 117, 110, 116, 101, 114, 32, 105, 115, 32, 117, 115, 101, 100, 32, 117, 112])]))
def laid_e2e_qlog_errNoRecord {H : Type} : DataW H := .iface "*errors.errorString" (.ptr (.agg [.lit (.string [113, 108, 111, 103, 58, 32, 110, 111, 32, 119, 104, 111, 108, 101, 32, 114, 101, 99, 111, 114, 100, 32, 104, 101, 114, 101])]))
def laid_e2e_qlog_errKind {H : Type} : DataW H := .iface "*errors.errorString" (.ptr (.agg [.lit (.string [113, 108, 111, 103, 58, 32, 117, 110, 107, 110, 111, 119, 110, 32, 114, 101, 99, 111, 114, 100, 32, 107, 105, 110, 100])]))

/-- 'qloglaw.Refines': WHATEVER THE INPUT: true; the input reads as it did. -/
def refinesSpec : ChangeSpec := { name := "refines", fn := fun _ => fun
  | [d] => { results := [.lit (.bool true)], args := [d] }
  | _ => none }
def refinesRow : OpenClaim := { program := "qxb6500909adoor", sum := "776d28b4472a388e02cafb536e691576771ffd476bb1210f9844d5c5a8a4f955", func := "e2e/qloglaw.Refines", spec := "refines", inPlace := ["internal/reflectlite.TypeOf"], unfollowed := true, recurses := true, named := ["e2e/api.ErrDown", "e2e/api.ErrWorn", "e2e/api.ErrTooBig", "e2e/qlog.errKind", "e2e/qlog.errNoRecord", "e2e/api.ErrCorrupt", "e2e/api.ErrBroken", "e2e/api.ErrFull"], apart := false, laid := [("e2e/api.ErrDown", laid_e2e_api_ErrDown), ("e2e/api.ErrFull", laid_e2e_api_ErrFull), ("e2e/api.ErrTooBig", laid_e2e_api_ErrTooBig), ("e2e/api.ErrBroken", laid_e2e_api_ErrBroken), ("e2e/api.ErrCorrupt", laid_e2e_api_ErrCorrupt), ("e2e/api.ErrWorn", laid_e2e_api_ErrWorn), ("e2e/qlog.errNoRecord", laid_e2e_qlog_errNoRecord), ("e2e/qlog.errKind", laid_e2e_qlog_errKind)] }
def RefinesSaid : Prop := refinesRow.holds Tryd.pinned (OpenSpec.ofChange refinesSpec)

/-- ITS FALSE NEIGHBOUR: 'it returns false'. Refute it at one input. -/
def refinesWrong : ChangeSpec := { name := "refines", fn := fun _ => fun
  | [d] => { results := [.lit (.bool false)], args := [d] }
  | _ => none }
def RefinesWrongFalsely : Prop := refinesRow.holds Tryd.pinned (OpenSpec.ofChange refinesWrong)

/-- 'qloglaw.RecoveryKeepsSyncedPrefix': WHATEVER THE INPUT: true; the input reads as it did. -/
def recoveryKeepsSyncedPrefixSpec : ChangeSpec := { name := "recoveryKeepsSyncedPrefix", fn := fun _ => fun
  | [d] => { results := [.lit (.bool true)], args := [d] }
  | _ => none }
def recoveryKeepsSyncedPrefixRow : OpenClaim := { program := "qxb6500909adoor", sum := "776d28b4472a388e02cafb536e691576771ffd476bb1210f9844d5c5a8a4f955", func := "e2e/qloglaw.RecoveryKeepsSyncedPrefix", spec := "recoveryKeepsSyncedPrefix", inPlace := ["internal/reflectlite.TypeOf"], unfollowed := true, recurses := true, named := ["e2e/api.ErrWorn", "e2e/api.ErrTooBig", "e2e/qlog.errKind", "e2e/qlog.errNoRecord", "e2e/api.ErrCorrupt", "e2e/api.ErrBroken", "e2e/api.ErrFull"], apart := false, laid := [("e2e/api.ErrFull", laid_e2e_api_ErrFull), ("e2e/api.ErrTooBig", laid_e2e_api_ErrTooBig), ("e2e/api.ErrBroken", laid_e2e_api_ErrBroken), ("e2e/api.ErrCorrupt", laid_e2e_api_ErrCorrupt), ("e2e/api.ErrWorn", laid_e2e_api_ErrWorn), ("e2e/qlog.errNoRecord", laid_e2e_qlog_errNoRecord), ("e2e/qlog.errKind", laid_e2e_qlog_errKind)] }
def RecoveryKeepsSyncedPrefixSaid : Prop := recoveryKeepsSyncedPrefixRow.holds Tryd.pinned (OpenSpec.ofChange recoveryKeepsSyncedPrefixSpec)

/-- ITS FALSE NEIGHBOUR: 'it returns false'. Refute it at one input. -/
def recoveryKeepsSyncedPrefixWrong : ChangeSpec := { name := "recoveryKeepsSyncedPrefix", fn := fun _ => fun
  | [d] => { results := [.lit (.bool false)], args := [d] }
  | _ => none }
def RecoveryKeepsSyncedPrefixWrongFalsely : Prop := recoveryKeepsSyncedPrefixRow.holds Tryd.pinned (OpenSpec.ofChange recoveryKeepsSyncedPrefixWrong)

/-- 'qloglaw.RecoverTwiceSame': WHATEVER THE INPUT: true; the input reads as it did. -/
def recoverTwiceSameSpec : ChangeSpec := { name := "recoverTwiceSame", fn := fun _ => fun
  | [d] => { results := [.lit (.bool true)], args := [d] }
  | _ => none }
def recoverTwiceSameRow : OpenClaim := { program := "qxb6500909adoor", sum := "776d28b4472a388e02cafb536e691576771ffd476bb1210f9844d5c5a8a4f955", func := "e2e/qloglaw.RecoverTwiceSame", spec := "recoverTwiceSame", inPlace := ["internal/reflectlite.TypeOf"], unfollowed := true, recurses := true, named := ["e2e/api.ErrWorn", "e2e/api.ErrTooBig", "e2e/qlog.errKind", "e2e/qlog.errNoRecord", "e2e/api.ErrCorrupt", "e2e/api.ErrBroken", "e2e/api.ErrFull"], apart := false, laid := [("e2e/api.ErrFull", laid_e2e_api_ErrFull), ("e2e/api.ErrTooBig", laid_e2e_api_ErrTooBig), ("e2e/api.ErrBroken", laid_e2e_api_ErrBroken), ("e2e/api.ErrCorrupt", laid_e2e_api_ErrCorrupt), ("e2e/api.ErrWorn", laid_e2e_api_ErrWorn), ("e2e/qlog.errNoRecord", laid_e2e_qlog_errNoRecord), ("e2e/qlog.errKind", laid_e2e_qlog_errKind)] }
def RecoverTwiceSameSaid : Prop := recoverTwiceSameRow.holds Tryd.pinned (OpenSpec.ofChange recoverTwiceSameSpec)

/-- ITS FALSE NEIGHBOUR: 'it returns false'. Refute it at one input. -/
def recoverTwiceSameWrong : ChangeSpec := { name := "recoverTwiceSame", fn := fun _ => fun
  | [d] => { results := [.lit (.bool false)], args := [d] }
  | _ => none }
def RecoverTwiceSameWrongFalsely : Prop := recoverTwiceSameRow.holds Tryd.pinned (OpenSpec.ofChange recoverTwiceSameWrong)

/-- 'qloglaw.EncodeDecode': WHATEVER THE INPUT: true; the input reads as it did. -/
def encodeDecodeSpec : ChangeSpec := { name := "encodeDecode", fn := fun _ => fun
  | [d] => { results := [.lit (.bool true)], args := [d] }
  | _ => none }
def encodeDecodeRow : OpenClaim := { program := "qxb6500909adoor", sum := "776d28b4472a388e02cafb536e691576771ffd476bb1210f9844d5c5a8a4f955", func := "e2e/qloglaw.EncodeDecode", spec := "encodeDecode", unfollowed := true, recurses := true, named := ["e2e/api.ErrTooBig", "e2e/qlog.errKind", "e2e/qlog.errNoRecord"], apart := false, laid := [("e2e/api.ErrTooBig", laid_e2e_api_ErrTooBig), ("e2e/qlog.errNoRecord", laid_e2e_qlog_errNoRecord), ("e2e/qlog.errKind", laid_e2e_qlog_errKind)] }
def EncodeDecodeSaid : Prop := encodeDecodeRow.holds Tryd.pinned (OpenSpec.ofChange encodeDecodeSpec)

/-- ITS FALSE NEIGHBOUR: 'it returns false'. Refute it at one input. -/
def encodeDecodeWrong : ChangeSpec := { name := "encodeDecode", fn := fun _ => fun
  | [d] => { results := [.lit (.bool false)], args := [d] }
  | _ => none }
def EncodeDecodeWrongFalsely : Prop := encodeDecodeRow.holds Tryd.pinned (OpenSpec.ofChange encodeDecodeWrong)

/-- 'qloglaw.FlipIsRejected': WHATEVER THE INPUT: true; the input reads as it did. -/
def flipIsRejectedSpec : ChangeSpec := { name := "flipIsRejected", fn := fun _ => fun
  | [d] => { results := [.lit (.bool true)], args := [d] }
  | _ => none }
def flipIsRejectedRow : OpenClaim := { program := "qxb6500909adoor", sum := "776d28b4472a388e02cafb536e691576771ffd476bb1210f9844d5c5a8a4f955", func := "e2e/qloglaw.FlipIsRejected", spec := "flipIsRejected", inPlace := ["internal/reflectlite.TypeOf"], unfollowed := true, recurses := true, named := ["e2e/api.ErrCorrupt", "e2e/api.ErrWorn", "e2e/api.ErrTooBig", "e2e/qlog.errKind", "e2e/qlog.errNoRecord", "e2e/api.ErrBroken", "e2e/api.ErrFull"], apart := false, laid := [("e2e/api.ErrFull", laid_e2e_api_ErrFull), ("e2e/api.ErrTooBig", laid_e2e_api_ErrTooBig), ("e2e/api.ErrBroken", laid_e2e_api_ErrBroken), ("e2e/api.ErrCorrupt", laid_e2e_api_ErrCorrupt), ("e2e/api.ErrWorn", laid_e2e_api_ErrWorn), ("e2e/qlog.errNoRecord", laid_e2e_qlog_errNoRecord), ("e2e/qlog.errKind", laid_e2e_qlog_errKind)] }
def FlipIsRejectedSaid : Prop := flipIsRejectedRow.holds Tryd.pinned (OpenSpec.ofChange flipIsRejectedSpec)

/-- ITS FALSE NEIGHBOUR: 'it returns false'. Refute it at one input. -/
def flipIsRejectedWrong : ChangeSpec := { name := "flipIsRejected", fn := fun _ => fun
  | [d] => { results := [.lit (.bool false)], args := [d] }
  | _ => none }
def FlipIsRejectedWrongFalsely : Prop := flipIsRejectedRow.holds Tryd.pinned (OpenSpec.ofChange flipIsRejectedWrong)

/-- 'qloglaw.FullAppendIsRefused': WHATEVER THE INPUT: true; the input reads as it did. -/
def fullAppendIsRefusedSpec : ChangeSpec := { name := "fullAppendIsRefused", fn := fun _ => fun
  | [d] => { results := [.lit (.bool true)], args := [d] }
  | _ => none }
def fullAppendIsRefusedRow : OpenClaim := { program := "qxb6500909adoor", sum := "776d28b4472a388e02cafb536e691576771ffd476bb1210f9844d5c5a8a4f955", func := "e2e/qloglaw.FullAppendIsRefused", spec := "fullAppendIsRefused", inPlace := ["internal/reflectlite.TypeOf"], unfollowed := true, recurses := true, named := ["e2e/api.ErrFull", "e2e/api.ErrWorn", "e2e/api.ErrTooBig", "e2e/qlog.errKind", "e2e/qlog.errNoRecord", "e2e/api.ErrCorrupt", "e2e/api.ErrBroken"], apart := false, laid := [("e2e/api.ErrFull", laid_e2e_api_ErrFull), ("e2e/api.ErrTooBig", laid_e2e_api_ErrTooBig), ("e2e/api.ErrBroken", laid_e2e_api_ErrBroken), ("e2e/api.ErrCorrupt", laid_e2e_api_ErrCorrupt), ("e2e/api.ErrWorn", laid_e2e_api_ErrWorn), ("e2e/qlog.errNoRecord", laid_e2e_qlog_errNoRecord), ("e2e/qlog.errKind", laid_e2e_qlog_errKind)] }
def FullAppendIsRefusedSaid : Prop := fullAppendIsRefusedRow.holds Tryd.pinned (OpenSpec.ofChange fullAppendIsRefusedSpec)

/-- ITS FALSE NEIGHBOUR: 'it returns false'. Refute it at one input. -/
def fullAppendIsRefusedWrong : ChangeSpec := { name := "fullAppendIsRefused", fn := fun _ => fun
  | [d] => { results := [.lit (.bool false)], args := [d] }
  | _ => none }
def FullAppendIsRefusedWrongFalsely : Prop := fullAppendIsRefusedRow.holds Tryd.pinned (OpenSpec.ofChange fullAppendIsRefusedWrong)

/-- 'qloglaw.CheckpointIsAtomic': WHATEVER THE INPUT: true; the input reads as it did. -/
def checkpointIsAtomicSpec : ChangeSpec := { name := "checkpointIsAtomic", fn := fun _ => fun
  | [d] => { results := [.lit (.bool true)], args := [d] }
  | _ => none }
def checkpointIsAtomicRow : OpenClaim := { program := "qxb6500909adoor", sum := "776d28b4472a388e02cafb536e691576771ffd476bb1210f9844d5c5a8a4f955", func := "e2e/qloglaw.CheckpointIsAtomic", spec := "checkpointIsAtomic", inPlace := ["internal/reflectlite.TypeOf"], unfollowed := true, recurses := true, named := ["e2e/api.ErrTooBig", "e2e/api.ErrWorn", "e2e/qlog.errKind", "e2e/qlog.errNoRecord", "e2e/api.ErrCorrupt", "e2e/api.ErrBroken", "e2e/api.ErrFull"], apart := false, laid := [("e2e/api.ErrFull", laid_e2e_api_ErrFull), ("e2e/api.ErrTooBig", laid_e2e_api_ErrTooBig), ("e2e/api.ErrBroken", laid_e2e_api_ErrBroken), ("e2e/api.ErrCorrupt", laid_e2e_api_ErrCorrupt), ("e2e/api.ErrWorn", laid_e2e_api_ErrWorn), ("e2e/qlog.errNoRecord", laid_e2e_qlog_errNoRecord), ("e2e/qlog.errKind", laid_e2e_qlog_errKind)] }
def CheckpointIsAtomicSaid : Prop := checkpointIsAtomicRow.holds Tryd.pinned (OpenSpec.ofChange checkpointIsAtomicSpec)

/-- ITS FALSE NEIGHBOUR: 'it returns false'. Refute it at one input. -/
def checkpointIsAtomicWrong : ChangeSpec := { name := "checkpointIsAtomic", fn := fun _ => fun
  | [d] => { results := [.lit (.bool false)], args := [d] }
  | _ => none }
def CheckpointIsAtomicWrongFalsely : Prop := checkpointIsAtomicRow.holds Tryd.pinned (OpenSpec.ofChange checkpointIsAtomicWrong)

end Rows
end Go.Proofs.Qxb6500909aDoor

/-
  DERIVED. GIVEN WITH THE SEED: THE PROGRAM's TIES (one call each: nine closed facts by the kernel) AND EACH ROW's TIE, after the 31st guide's Derived/Test/Toyas{Tie, Card}.lean. No idea stands in it: it is a product of the set-up. Laid BY PROGRAM, IN A SANDBOX (cutbox-door.mjs). By AI agents, Wed Nov 11 2026. No macro, syntax, notation, axiom, sorry.
-/
import Derived.Test.Qxb6500909aDoorRows
import Derived.LaidByTextLater
import Derived.SevenTiedAt
import Derived.LaidSub
import Derived.LaidOnce
namespace Go.Proofs.Qxb6500909aDoor
open Go
set_option maxRecDepth 100000
theorem seatTie1 : Tryd.prog.laidByTextLater [("e2e/api.ErrDown", Rows.laid_e2e_api_ErrDown), ("e2e/api.ErrFull", Rows.laid_e2e_api_ErrFull), ("e2e/api.ErrTooBig", Rows.laid_e2e_api_ErrTooBig), ("e2e/api.ErrBroken", Rows.laid_e2e_api_ErrBroken), ("e2e/api.ErrCorrupt", Rows.laid_e2e_api_ErrCorrupt), ("e2e/api.ErrWorn", Rows.laid_e2e_api_ErrWorn), ("e2e/qlog.errNoRecord", Rows.laid_e2e_qlog_errNoRecord), ("e2e/qlog.errKind", Rows.laid_e2e_qlog_errKind)] [.sentinel, .sentinel, .sentinel, .sentinel, .sentinel, .sentinel, .sentinel, .sentinel] true :=
  Program.laidByTextLater_by_one 199 8 2 (by kernel_rfl) (by kernel_rfl) (by kernel_rfl) (by kernel_rfl) (by kernel_rfl) (by kernel_rfl) (fun _ _ => by kernel_rfl)
theorem noOwnUnsafe : Tryd.pinned.checked.prog.headLifts.contains "ownunsafe" = false := by kernel_rfl
theorem tie : Tryd.prog.laidByTextLater [("e2e/api.ErrDown", Rows.laid_e2e_api_ErrDown), ("e2e/api.ErrFull", Rows.laid_e2e_api_ErrFull), ("e2e/api.ErrTooBig", Rows.laid_e2e_api_ErrTooBig), ("e2e/api.ErrBroken", Rows.laid_e2e_api_ErrBroken), ("e2e/api.ErrCorrupt", Rows.laid_e2e_api_ErrCorrupt), ("e2e/api.ErrWorn", Rows.laid_e2e_api_ErrWorn), ("e2e/qlog.errNoRecord", Rows.laid_e2e_qlog_errNoRecord), ("e2e/qlog.errKind", Rows.laid_e2e_qlog_errKind)] [.sentinel, .sentinel, .sentinel, .sentinel, .sentinel, .sentinel, .sentinel, .sentinel] true :=
  Program.laidByTextLater.sub seatTie1 ["e2e/api.ErrDown", "e2e/api.ErrFull", "e2e/api.ErrTooBig", "e2e/api.ErrBroken", "e2e/api.ErrCorrupt", "e2e/api.ErrWorn", "e2e/qlog.errNoRecord", "e2e/qlog.errKind"] (by kernel_rfl) (by kernel_rfl)
theorem refines_row_tie : Rows.refinesRow.laidByTextAt .later Tryd.pinned [.sentinel, .sentinel, .sentinel, .sentinel, .sentinel, .sentinel, .sentinel, .sentinel] true :=
  OpenClaim.laidByTextAt_later rfl rfl tie noOwnUnsafe
theorem tie2 : Tryd.prog.laidByTextLater [("e2e/api.ErrFull", Rows.laid_e2e_api_ErrFull), ("e2e/api.ErrTooBig", Rows.laid_e2e_api_ErrTooBig), ("e2e/api.ErrBroken", Rows.laid_e2e_api_ErrBroken), ("e2e/api.ErrCorrupt", Rows.laid_e2e_api_ErrCorrupt), ("e2e/api.ErrWorn", Rows.laid_e2e_api_ErrWorn), ("e2e/qlog.errNoRecord", Rows.laid_e2e_qlog_errNoRecord), ("e2e/qlog.errKind", Rows.laid_e2e_qlog_errKind)] [.sentinel, .sentinel, .sentinel, .sentinel, .sentinel, .sentinel, .sentinel] true :=
  Program.laidByTextLater.sub seatTie1 ["e2e/api.ErrFull", "e2e/api.ErrTooBig", "e2e/api.ErrBroken", "e2e/api.ErrCorrupt", "e2e/api.ErrWorn", "e2e/qlog.errNoRecord", "e2e/qlog.errKind"] (by kernel_rfl) (by kernel_rfl)
theorem recoveryKeepsSyncedPrefix_row_tie : Rows.recoveryKeepsSyncedPrefixRow.laidByTextAt .later Tryd.pinned [.sentinel, .sentinel, .sentinel, .sentinel, .sentinel, .sentinel, .sentinel] true :=
  OpenClaim.laidByTextAt_later rfl rfl tie2 noOwnUnsafe
theorem recoverTwiceSame_row_tie : Rows.recoverTwiceSameRow.laidByTextAt .later Tryd.pinned [.sentinel, .sentinel, .sentinel, .sentinel, .sentinel, .sentinel, .sentinel] true :=
  OpenClaim.laidByTextAt_later rfl rfl tie2 noOwnUnsafe
theorem flipIsRejected_row_tie : Rows.flipIsRejectedRow.laidByTextAt .later Tryd.pinned [.sentinel, .sentinel, .sentinel, .sentinel, .sentinel, .sentinel, .sentinel] true :=
  OpenClaim.laidByTextAt_later rfl rfl tie2 noOwnUnsafe
theorem fullAppendIsRefused_row_tie : Rows.fullAppendIsRefusedRow.laidByTextAt .later Tryd.pinned [.sentinel, .sentinel, .sentinel, .sentinel, .sentinel, .sentinel, .sentinel] true :=
  OpenClaim.laidByTextAt_later rfl rfl tie2 noOwnUnsafe
theorem checkpointIsAtomic_row_tie : Rows.checkpointIsAtomicRow.laidByTextAt .later Tryd.pinned [.sentinel, .sentinel, .sentinel, .sentinel, .sentinel, .sentinel, .sentinel] true :=
  OpenClaim.laidByTextAt_later rfl rfl tie2 noOwnUnsafe
theorem tie3 : Tryd.prog.laidByTextLater [("e2e/api.ErrTooBig", Rows.laid_e2e_api_ErrTooBig), ("e2e/qlog.errNoRecord", Rows.laid_e2e_qlog_errNoRecord), ("e2e/qlog.errKind", Rows.laid_e2e_qlog_errKind)] [.sentinel, .sentinel, .sentinel] true :=
  Program.laidByTextLater.sub seatTie1 ["e2e/api.ErrTooBig", "e2e/qlog.errNoRecord", "e2e/qlog.errKind"] (by kernel_rfl) (by kernel_rfl)
theorem encodeDecode_row_tie : Rows.encodeDecodeRow.laidByTextAt .later Tryd.pinned [.sentinel, .sentinel, .sentinel] true :=
  OpenClaim.laidByTextAt_later rfl rfl tie3 noOwnUnsafe
end Go.Proofs.Qxb6500909aDoor

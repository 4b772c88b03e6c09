/-
  DERIVED. GIVEN WITH THE SEED: THE PROGRAM's TIES (one call each: nine closed facts by the kernel) AND EACH ROW's TIE, after the 31st guide's Derived/Test/Toyas{Tie, Card}.lean. No idea stands in it: it is a product of the set-up. Laid BY PROGRAM, IN A SANDBOX (cutbox-door.mjs). By AI agents, Wed Nov 11 2026. No macro, syntax, notation, axiom, sorry.
-/
import Derived.Test.YthnfjkgiaanmhaaGreatDoorRows
import Derived.LaidByTextLater
import Derived.SevenTiedAt
import Derived.LaidSub
import Derived.LaidOnce
namespace Go.Proofs.YthnfjkgiaanmhaaGreatDoor
open Go
set_option maxRecDepth 100000
theorem seatTie1 : Tryz.prog.laidByTextLater [("chartroom/digest.start", Rows.laid_chartroom_digest_start), ("chartroom/digest.numbers", Rows.laid_chartroom_digest_numbers), ("bytes.ErrTooLarge", Rows.laid_bytes_ErrTooLarge)] [.data, .data, .sentinel] true :=
  Program.laidByTextLater_by_one 38 8 65 (by kernel_rfl) (by kernel_rfl) (by kernel_rfl) (by kernel_rfl) (by kernel_rfl) (by kernel_rfl) (fun _ _ => by kernel_rfl)
theorem noOwnUnsafe : Tryz.pinned.checked.prog.headLifts.contains "ownunsafe" = false := by kernel_rfl
theorem tie : Tryz.prog.laidByTextLater [("chartroom/digest.start", Rows.laid_chartroom_digest_start), ("chartroom/digest.numbers", Rows.laid_chartroom_digest_numbers), ("bytes.ErrTooLarge", Rows.laid_bytes_ErrTooLarge)] [.data, .data, .sentinel] true :=
  Program.laidByTextLater.sub seatTie1 ["chartroom/digest.start", "chartroom/digest.numbers", "bytes.ErrTooLarge"] (by kernel_rfl) (by kernel_rfl)
theorem gossipHonest_row_tie : Rows.gossipHonestRow.laidByTextAt .later Tryz.pinned [.data, .data, .sentinel] true :=
  OpenClaim.laidByTextAt_later rfl rfl tie noOwnUnsafe
theorem gossipCaught_row_tie : Rows.gossipCaughtRow.laidByTextAt .later Tryz.pinned [.data, .data, .sentinel] true :=
  OpenClaim.laidByTextAt_later rfl rfl tie noOwnUnsafe
theorem gossipProofs_row_tie : Rows.gossipProofsRow.laidByTextAt .later Tryz.pinned [.data, .data, .sentinel] true :=
  OpenClaim.laidByTextAt_later rfl rfl tie noOwnUnsafe
theorem gossipEither_row_tie : Rows.gossipEitherRow.laidByTextAt .later Tryz.pinned [.data, .data, .sentinel] true :=
  OpenClaim.laidByTextAt_later rfl rfl tie noOwnUnsafe
theorem gossipRemember_row_tie : Rows.gossipRememberRow.laidByTextAt .later Tryz.pinned [.data, .data, .sentinel] true :=
  OpenClaim.laidByTextAt_later rfl rfl tie noOwnUnsafe
theorem gossipHonestUpto_row_tie : Rows.gossipHonestUptoRow.laidByTextAt .later Tryz.pinned [.data, .data, .sentinel] true :=
  OpenClaim.laidByTextAt_later rfl rfl tie noOwnUnsafe
theorem gossipCaughtUpto_row_tie : Rows.gossipCaughtUptoRow.laidByTextAt .later Tryz.pinned [.data, .data, .sentinel] true :=
  OpenClaim.laidByTextAt_later rfl rfl tie noOwnUnsafe
theorem gossipProofsUpto_row_tie : Rows.gossipProofsUptoRow.laidByTextAt .later Tryz.pinned [.data, .data, .sentinel] true :=
  OpenClaim.laidByTextAt_later rfl rfl tie noOwnUnsafe
theorem gossipEitherUpto_row_tie : Rows.gossipEitherUptoRow.laidByTextAt .later Tryz.pinned [.data, .data, .sentinel] true :=
  OpenClaim.laidByTextAt_later rfl rfl tie noOwnUnsafe
theorem gossipRememberUpto_row_tie : Rows.gossipRememberUptoRow.laidByTextAt .later Tryz.pinned [.data, .data, .sentinel] true :=
  OpenClaim.laidByTextAt_later rfl rfl tie noOwnUnsafe
end Go.Proofs.YthnfjkgiaanmhaaGreatDoor

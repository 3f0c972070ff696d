/-
  DERIVED. GIVEN WITH THE SEED: THE PROGRAM's TIES (one call each: nine closed facts by the kernel) AND EACH ROW's TIE, after the 31st guide's Derived/Test/Toyas{Tie, Card}.lean. No idea stands in it: it is a product of the set-up. Laid BY PROGRAM, IN A SANDBOX (cutbox-door.mjs). By AI agents, Wed Nov 11 2026. No macro, syntax, notation, axiom, sorry.
-/
import Derived.Test.YtmpplggjpmmhlaaGreatDoorRows
import Derived.LaidByTextLater
import Derived.SevenTiedAt
import Derived.LaidSub
import Derived.LaidOnce
namespace Go.Proofs.YtmpplggjpmmhlaaGreatDoor
open Go
set_option maxRecDepth 100000
theorem seatTie1 : Tryz.prog.laidByTextLater [("loop.example/cothreads/impl.instrTable", Rows.laid_loop_example_cothreads_impl_instrTable), ("loop.example/cothreads/impl.machineOps", Rows.laid_loop_example_cothreads_impl_machineOps), ("loop.example/cothreads/impl.savedRegs", Rows.laid_loop_example_cothreads_impl_savedRegs)] [.wider, .data, .data] true :=
  Program.laidByTextLater_by_one 45 8 85 (by kernel_rfl) (by kernel_rfl) (by kernel_rfl) (by kernel_rfl) (by kernel_rfl) (by kernel_rfl) (fun _ _ => by kernel_rfl)
theorem noOwnUnsafe : Tryz.pinned.checked.prog.headLifts.contains "ownunsafe" = false := by kernel_rfl
theorem tie : Tryz.prog.laidByTextLater [("loop.example/cothreads/impl.instrTable", Rows.laid_loop_example_cothreads_impl_instrTable)] [.wider] true :=
  Program.laidByTextLater.sub seatTie1 ["loop.example/cothreads/impl.instrTable"] (by kernel_rfl) (by kernel_rfl)
theorem fnHartNew_row_tie : Rows.fnHartNewRow.laidByTextAt .later Tryz.pinned [.wider] true :=
  OpenClaim.laidByTextAt_later rfl rfl tie noOwnUnsafe
theorem fnSquadNew_row_tie : Rows.fnSquadNewRow.laidByTextAt .later Tryz.pinned [.wider] true :=
  OpenClaim.laidByTextAt_later rfl rfl tie noOwnUnsafe
theorem tie2 : Tryz.prog.laidByTextLater [("loop.example/cothreads/impl.instrTable", Rows.laid_loop_example_cothreads_impl_instrTable), ("loop.example/cothreads/impl.savedRegs", Rows.laid_loop_example_cothreads_impl_savedRegs)] [.wider, .data] true :=
  Program.laidByTextLater.sub seatTie1 ["loop.example/cothreads/impl.instrTable", "loop.example/cothreads/impl.savedRegs"] (by kernel_rfl) (by kernel_rfl)
theorem fnImageBlocks_row_tie : Rows.fnImageBlocksRow.laidByTextAt .later Tryz.pinned [.wider, .data] true :=
  OpenClaim.laidByTextAt_later rfl rfl tie2 noOwnUnsafe
theorem fnImageData_row_tie : Rows.fnImageDataRow.laidByTextAt .later Tryz.pinned [.wider, .data] true :=
  OpenClaim.laidByTextAt_later rfl rfl tie2 noOwnUnsafe
theorem fnImageFirst_row_tie : Rows.fnImageFirstRow.laidByTextAt .later Tryz.pinned [.wider, .data] true :=
  OpenClaim.laidByTextAt_later rfl rfl tie2 noOwnUnsafe
theorem fnImage_row_tie : Rows.fnImageRow.laidByTextAt .later Tryz.pinned [.wider, .data] true :=
  OpenClaim.laidByTextAt_later rfl rfl tie2 noOwnUnsafe
theorem tie3 : Tryz.prog.laidByTextLater [("loop.example/cothreads/impl.instrTable", Rows.laid_loop_example_cothreads_impl_instrTable), ("loop.example/cothreads/impl.machineOps", Rows.laid_loop_example_cothreads_impl_machineOps)] [.wider, .data] true :=
  Program.laidByTextLater.sub seatTie1 ["loop.example/cothreads/impl.instrTable", "loop.example/cothreads/impl.machineOps"] (by kernel_rfl) (by kernel_rfl)
theorem fnImageRun_row_tie : Rows.fnImageRunRow.laidByTextAt .later Tryz.pinned [.wider, .data] true :=
  OpenClaim.laidByTextAt_later rfl rfl tie3 noOwnUnsafe
theorem fnImageStep_row_tie : Rows.fnImageStepRow.laidByTextAt .later Tryz.pinned [.wider, .data] true :=
  OpenClaim.laidByTextAt_later rfl rfl tie3 noOwnUnsafe
theorem fnHartNewUpto_row_tie : Rows.fnHartNewUptoRow.laidByTextAt .later Tryz.pinned [.wider] true :=
  OpenClaim.laidByTextAt_later rfl rfl tie noOwnUnsafe
theorem fnSquadNewUpto_row_tie : Rows.fnSquadNewUptoRow.laidByTextAt .later Tryz.pinned [.wider] true :=
  OpenClaim.laidByTextAt_later rfl rfl tie noOwnUnsafe
theorem fnImageBlocksUpto_row_tie : Rows.fnImageBlocksUptoRow.laidByTextAt .later Tryz.pinned [.wider, .data] true :=
  OpenClaim.laidByTextAt_later rfl rfl tie2 noOwnUnsafe
theorem fnImageDataUpto_row_tie : Rows.fnImageDataUptoRow.laidByTextAt .later Tryz.pinned [.wider, .data] true :=
  OpenClaim.laidByTextAt_later rfl rfl tie2 noOwnUnsafe
theorem fnImageFirstUpto_row_tie : Rows.fnImageFirstUptoRow.laidByTextAt .later Tryz.pinned [.wider, .data] true :=
  OpenClaim.laidByTextAt_later rfl rfl tie2 noOwnUnsafe
theorem fnImageUpto_row_tie : Rows.fnImageUptoRow.laidByTextAt .later Tryz.pinned [.wider, .data] true :=
  OpenClaim.laidByTextAt_later rfl rfl tie2 noOwnUnsafe
theorem fnImageRunUpto_row_tie : Rows.fnImageRunUptoRow.laidByTextAt .later Tryz.pinned [.wider, .data] true :=
  OpenClaim.laidByTextAt_later rfl rfl tie3 noOwnUnsafe
theorem fnImageStepUpto_row_tie : Rows.fnImageStepUptoRow.laidByTextAt .later Tryz.pinned [.wider, .data] true :=
  OpenClaim.laidByTextAt_later rfl rfl tie3 noOwnUnsafe
end Go.Proofs.YtmpplggjpmmhlaaGreatDoor
